import Derived.Test.YtedbbdeeofdepaaGreatN12
import Derived.Test.YtedbbdeeofdepaaGreatN14
section
/-! The reference's refill: one place, by trying. -/
namespace Go.Proofs.YtedbbdeeofdepaaGreat
open Go.Sh Go.RowKit
set_option linter.unusedVariables false
set_option linter.unusedSimpArgs false
set_option maxRecDepth 20000
set_option maxHeartbeats 2000000
/-- the lost ones that are data -/
def dt (n : Nat) (l : List Int) : List Int := l.filter fun x => decide (x < (n : Int))
theorem dt_len (n : Nat) (l : List Int) : (dt n l).length ≤ l.length := List.length_filter_le _ _
theorem dt_mem {n : Nat} {l : List Int} {x : Int} : x ∈ dt n l ↔ x ∈ l ∧ x < n := by simp [dt]
/-- behind the trying -/
structure StageA (n : Nat) (lost : List Int) (f : Nat → UInt8) : Prop where
  one : ∀ x, dt n lost = [x] → ((n : Int) ∉ lost → PRel f n) ∧ ((n : Int) ∈ lost → QRel f n)
  two : (dt n lost).length = 2 → PRel f n ∧ QRel f n
def stP (n : Nat) (lost : List Int) (v : Txt) : Txt := if (n : Int) ∈ lost then v.set n (vf v n ^^^ pS v) else v
def stQ (n : Nat) (lost : List Int) (v u : Txt) : Txt := if ((n + 1 : Nat) : Int) ∈ lost then u.set (n + 1) (vf u (n + 1) ^^^ qS v) else u
theorem stP_len (n : Nat) (lost : List Int) (v : Txt) : (stP n lost v).length = v.length := by unfold stP; split <;> simp
theorem stQ_len (n : Nat) (lost : List Int) (v u : Txt) : (stQ n lost v u).length = u.length := by unfold stQ; split <;> simp
theorem filled_end {n : Nat} {lost : List Int} {v : Txt} (hv : v.length = n + 2) (hl2 : lost.length ≤ 2) (hnd : lost.Nodup) (hr : ∀ x ∈ lost, 0 ≤ x ∧ x < (n : Int) + 2) (hA : StageA n lost (vf v)) :
    Filled n lost (vf (stQ n lost v (stP n lost v))) := by
  have en : v.length - 2 = n := by omega
  have en1 : v.length - 1 = n + 1 := by omega
  have hu := stP_len n lost v
  have uP : (n : Int) ∈ lost ∨ PRel (vf v) n → PRel (vf (stP n lost v)) n := fun h => by
    unfold stP
    by_cases hm : (n : Int) ∈ lost
    · rw [if_pos hm]
      have := fix_p (v := v) (by omega)
      rw [en] at this; exact this
    · rw [if_neg hm]
      exact h.resolve_left hm
  have uQ : QRel (vf v) n → QRel (vf (stP n lost v)) n := fun h => by
    unfold stP
    by_cases hm : (n : Int) ∈ lost
    · rw [if_pos hm]
      have := fix_p_q (v := v) (by omega) (vf v n ^^^ pS v) (by rw [en]; exact h)
      rw [en] at this; exact this
    · rw [if_neg hm]; exact h
  have us : ∀ c, c ≠ n → vf (stP n lost v) c = vf v c := fun c hc => by
    unfold stP
    split
    · exact vf_out (by omega) hc _
    · rfl
  have wP : (n : Int) ∈ lost ∨ PRel (vf v) n → PRel (vf (stQ n lost v (stP n lost v))) n := fun h => by
    have := uP h
    unfold stQ
    split
    · have h2 := fix_q_p (v := v) (u := stP n lost v) (by omega) hu (vf (stP n lost v) (n + 1) ^^^ qS v) (by rw [en]; exact this)
      rw [en, en1] at h2; exact h2
    · exact this
  have wQ : ((n + 1 : Nat) : Int) ∈ lost ∨ QRel (vf v) n → QRel (vf (stQ n lost v (stP n lost v))) n := fun h => by
    unfold stQ
    by_cases hm : ((n + 1 : Nat) : Int) ∈ lost
    · rw [if_pos hm]
      have h2 := fix_q (v := v) (u := stP n lost v) (by omega) hu (by rw [en]; exact us)
      rw [en, en1] at h2; exact h2
    · rw [if_neg hm]
      exact uQ (h.resolve_left hm)
  match lost, hl2, hnd, hr, hA with
  | [], _, _, _, _ => exact ⟨fun h => absurd h (by simp), fun i h => absurd h (by simp)⟩
  | [x], _, _, hr, hA =>
    obtain ⟨h0, h1⟩ := hr x (by simp)
    refine ⟨fun h => absurd h (by simp), fun i h => ?_⟩
    obtain rfl : x = (i : Int) := (List.cons.inj h).1
    refine ⟨fun hi => wP ?_, fun hi => wQ (.inl (by simp; omega))⟩
    by_cases e : i = n
    · exact .inl (by simp; omega)
    · refine .inr ((hA.one (i : Int) ?_).1 (by simp; omega))
      simp [dt]; omega
  | [x, y], _, hnd, hr, hA =>
    obtain ⟨h0, h1⟩ := hr x (by simp)
    obtain ⟨h2, h3⟩ := hr y (by simp)
    have hxy : x ≠ y := fun e => by simp [e] at hnd
    refine ⟨fun _ => ⟨wP ?_, wQ ?_⟩, fun i h => absurd h (by simp)⟩
    · by_cases hm : (n : Int) ∈ [x, y]
      · exact .inl hm
      · right
        have hm' : (n : Int) ≠ x ∧ (n : Int) ≠ y := by simpa using hm
        by_cases hx : x < n
        · by_cases hy : y < n
          · exact (hA.two (by simp [dt, hx, hy])).1
          · exact (hA.one x (by simp [dt, hx, hy])).1 hm
        · have hy : y < n := by omega
          exact (hA.one y (by simp [dt, hx, hy])).1 hm
    · by_cases hm : ((n + 1 : Nat) : Int) ∈ [x, y]
      · exact .inl hm
      · right
        have hm' : ((n + 1 : Nat) : Int) ≠ x ∧ ((n + 1 : Nat) : Int) ≠ y := by simpa using hm
        by_cases hx : x < n
        · by_cases hy : y < n
          · exact (hA.two (by simp [dt, hx, hy])).2
          · exact (hA.one x (by simp [dt, hx, hy])).2 (by simp; omega)
        · have hy : y < n := by omega
          exact (hA.one y (by simp [dt, hx, hy])).2 (by simp; omega)
theorem out_end {n : Nat} {lost : List Int} {v : Txt} (hv : v.length = n + 2) (c : Nat) (hc : (c : Int) ∉ lost) : vf (stQ n lost v (stP n lost v)) c = vf v c := by
  have hu := stP_len n lost v
  have e1 : vf (stP n lost v) c = vf v c := by
    unfold stP
    split
    · rename_i hm
      exact vf_out (by omega) (fun e => hc (by rw [e]; exact hm)) _
    · rfl
  unfold stQ
  split
  · rename_i hm
    rw [vf_out (by omega) (fun e => hc (by rw [e]; exact hm)), e1]
  · exact e1
/-- the byte that is tried -/
theorem try_iff {i : Nat} (hi : i < 256) {x : UInt8} : (UInt8.ofNat i = x) ↔ i = x.toNat := by
  constructor
  · intro h
    rw [← h, UInt8.toNat_ofNat']
    exact (Nat.mod_eq_of_lt hi).symm
  · intro h
    rw [h]; simp
theorem u8_inj {x y : UInt8} : ((x.toNat : Nat) : Int) = ((y.toNat : Nat) : Int) ↔ x = y := ⟨fun h => UInt8.toNat_inj.1 (by omega), fun h => by rw [h]⟩
theorem ofNat_int {i : Nat} (hi : i < 256) : IntKind.u8.wrap (i : Int) = ((UInt8.ofNat i).toNat : Int) := by
  rw [wrap8, UInt8.toNat_ofNat', Nat.mod_eq_of_lt hi]; omega
/-- what is found by Q alone -/
theorem solve_q {d : Nat} (hd : d < 255) (q : UInt8) : ∃ s : UInt8, ∀ x, mulG x (ex d) = q ↔ x = s := by
  refine ⟨mulG q (exI (0 - (d : Int))), fun x => ?_⟩
  have h := exI_back hd q
  rw [mulG_ex]
  constructor
  · intro hx
    exact xp_inj (k := d) (by rw [h, hx])
  · intro hx
    rw [hx, h]
theorem solve_pq {d k : Nat} (hd : d < 255) (hk : k < 255) (hdk : d ≠ k) (p q : UInt8) : ∃ s : UInt8, ∀ x, mulG x (ex d) ^^^ mulG (x ^^^ p) (ex k) = q ↔ x = s := by
  have hs := ex_sum_ne hd hk hdk
  have e : ∀ x, mulG x (ex d) ^^^ mulG (x ^^^ p) (ex k) = q ↔ mulG x (ex d ^^^ ex k) = q ^^^ mulG p (ex k) := fun x => by
    rw [mulG_xor, mulG_xor', ← UInt8.xor_assoc]
    generalize mulG x (ex d) ^^^ mulG x (ex k) = a
    generalize mulG p (ex k) = b
    constructor
    · intro h; rw [← h, UInt8.xor_assoc, UInt8.xor_self, UInt8.xor_zero]
    · intro h; rw [h, UInt8.xor_assoc, UInt8.xor_self, UInt8.xor_zero]
  refine ⟨mulG (q ^^^ mulG p (ex k)) (invG (ex d ^^^ ex k)), fun x => ?_⟩
  rw [e]
  have h := mulG_back hs (q ^^^ mulG p (ex k))
  constructor
  · intro hx
    exact mulG_inj hs (by rw [h, hx])
  · intro hx
    rw [hx, h]
theorem one_spec {v : Txt} {n : Nat} (hv : v.length = n + 2) (h2 : 2 ≤ n) (h10 : n ≤ 8) {lost : List Int} (hl2 : lost.length ≤ 2) (hnd : lost.Nodup) (hr : ∀ x ∈ lost, 0 ≤ x ∧ x < (n : Int) + 2) (hz : ∀ c : Nat, (c : Int) ∈ lost → vf v c = 0) {b cap d : Nat} {w0 w : World} {Γ : List A} {q : Option Addr} (hq : intsL w0 q lost)
    (hT : T [] w0 w (rowP 5 1 (some b) (n + 2) cap (bvals v) :: Γ)) :
    Calls Tryz.prog 105 #[.slice (some ⟨b, 0, none⟩) (n + 2) cap, .slice q lost.length d] w fun e w' => ∃ v' : Txt, e = .returned (.slice (some ⟨b, 0, none⟩) (n + 2) cap) ∧ v'.length = n + 2 ∧ (∀ c : Nat, (c : Int) ∉ lost → vf v' c = vf v c) ∧ Filled n lost (vf v') ∧ T [] w0 w' (rowP 5 1 (some b) (n + 2) cap (bvals v') :: Γ) := by
  refine (revetmentref06_one_calls (R := fun u w' => ∃ v' : Txt, u = .slice (some ⟨b, 0, none⟩) (n + 2) cap ∧ v'.length = n + 2 ∧ (∀ c : Nat, (c : Int) ∉ lost → vf v' c = vf v c) ∧ Filled n lost (vf v') ∧ T [] w0 w' (rowP 5 1 (some b) (n + 2) cap (bvals v') :: Γ)) ?_).mono fun e w' ⟨u, he, v', hu, h⟩ => ⟨v', by rw [he, hu], h⟩
  unfold revetmentref06_one
  have en : v.length - 2 = n := by omega
  have e1 : IntKind.i64.wrap (((n + 2 : Nat) : Int) - 2) = ((n : Nat) : Int) := by rw [wrap64 _ (by omega) (by omega)]; omega
  have e2 : IntKind.i64.wrap ((n : Int) + 1) = ((n + 1 : Nat) : Int) := by rw [wrap64 _ (by omega) (by omega)]; omega
  simp only [e1, e2]
  refine (sums_spec (by omega) (by omega) hT List.mem_cons_self).mono fun e w1 ⟨he, hx1⟩ => ⟨_, _, he, ?_⟩
  refine Alloc.t (hT.quiet hx1) fun k21 w2 h2' => ?_
  have h2' : T [] w0 w2 (rowP 3 1 (some k21) 0 0 (intsI (dt n (lost.take 0))) :: rowP 5 1 (some b) (n + 2) cap (bvals v) :: Γ) := blk_row h2' rfl rfl (by decide)
  refine ⟨fun vs w' => ∃ (i : Nat) (g : Option Nat) (cd : Nat), vs = [.slice (ptr g) (dt n (lost.take i)).length cd, .int .i64 (i : Int)] ∧ i ≤ lost.length ∧ T [] w0 w' (rowP 3 1 g (dt n (lost.take i)).length cd (intsI (dt n (lost.take i))) :: rowP 5 1 (some b) (n + 2) cap (bvals v) :: Γ), fun vs _ => match vs with | [_, .int _ i] => (lost.length - i).toNat | _ => 0, ⟨0, some k21, 0, rfl, by omega, h2'⟩, ?_⟩
  rintro vs w3 ⟨i, g, cd, rfl, hi, h3⟩
  refine ⟨_, _, _, _, rfl, dec_t fun hlt => ?_, dec_f fun hge => ?_⟩
  · have hlt : i < lost.length := by omega
    obtain ⟨a, ha, hc⟩ := (hq.ext h3.chg.ext).get hlt
    have hg : lost.getD i 0 = lost[i] := by simp [List.getD, hlt]
    rw [hg] at hc
    have hms : ((lost.length : Int) - IntKind.i64.wrap ((i : Int) + 1)).toNat < ((lost.length : Int) - (i : Int)).toNat := by rw [wrap64 _ (by omega) (by omega)]; omega
    have hnx : IntKind.i64.wrap ((i : Int) + 1) = ((i + 1 : Nat) : Int) := by rw [wrap64 _ (by omega) (by omega)]; omega
    have htk : lost.take (i + 1) = lost.take i ++ [lost[i]] := by rw [List.take_add_one, List.getElem?_eq_getElem hlt]; rfl
    refine ⟨a, ha, by omega, by omega, _, by rw [Int.toNat_natCast]; exact hc, dec_t fun hln => ?_, dec_f fun hln => ?_⟩
    · have hdt : dt n (lost.take (i + 1)) = dt n (lost.take i) ++ [lost[i]] := by
        rw [htk]; unfold dt; rw [List.filter_append]; congr 1; simp [hln]
      refine ⟨a, ha, by omega, by omega, _, by rw [Int.toNat_natCast]; exact hc, ?_⟩
      have hdl := dt_len n (lost.take i)
      rw [List.length_take] at hdl
      refine push1_t (i := Tryz.t3) (z := .int .i64 0) (by kernel_rfl) (by kernel_rfl) (by kernel_rfl) (by kernel_rfl) (by kernel_rfl) (by kernel_rfl) h3 .head rfl (by omega) fun g2 cap2 w8 h8 => ⟨⟨i + 1, g2, cap2, ?_, by omega, ?_⟩, hms⟩
      · rw [hnx, hdt]; simp
      · have e3 : intsI (dt n (lost.take i)) ++ [.int .i64 lost[i]] = intsI (dt n (lost.take (i + 1))) := by rw [hdt]; simp [intsI]
        rw [e3] at h8
        have e4 : (dt n (lost.take (i + 1))).length = (dt n (lost.take i)).length + 1 := by rw [hdt]; simp
        rw [e4]; exact h8
    · have hdt : dt n (lost.take (i + 1)) = dt n (lost.take i) := by
        rw [htk]; unfold dt; rw [List.filter_append]; simp [hln]
      refine ⟨⟨i + 1, g, cd, ?_, by omega, ?_⟩, hms⟩
      · rw [hnx, hdt]
      · rw [hdt]; exact h3
  · have hie : i = lost.length := by omega
    subst hie
    rw [List.take_length] at h3 ⊢
    refine Join.intro fun J hJ => ?_
    have main : ∀ (v' : Txt) (w6 : World), v'.length = n + 2 → (∀ c : Nat, (c : Int) ∉ lost → vf v' c = vf v c) → StageA n lost (vf v') → T [] w0 w6 (rowP 3 1 g (dt n lost).length cd (intsI (dt n lost)) :: rowP 5 1 (some b) (n + 2) cap (bvals v') :: Γ) → J [] w6 := by
      intro v' w6 hv' hout hA h6
      have h6 := T.dropAt h6 .head
      refine hJ _ _ ⟨rfl, (sums_spec (by omega) (by omega) h6 List.mem_cons_self).mono fun e w7 ⟨he, hx7⟩ => ⟨_, _, he, Join.intro fun J1 hJ1 => ?_⟩⟩
      have h7 := h6.quiet hx7
      have main2 : ∀ w8, T [] w0 w8 (rowP 5 1 (some b) (n + 2) cap (bvals (stP n lost v')) :: Γ) → J1 [] w8 := by
        intro w8 h8
        have hpl := stP_len n lost v'
        refine hJ1 _ _ ⟨rfl, (has_spec (l := lost) (by omega) ((n + 1 : Nat) : Int) (c := d) (hq.ext h8.chg.ext)).mono fun e w9 ⟨he, hx9⟩ => ⟨_, he, dec_t fun hm => ?_, dec_f fun hm => ?_⟩⟩
        · refine ⟨_, rfl, by omega, by omega, _, by rw [Int.toNat_natCast]; exact row_byte (h8.quiet hx9) List.mem_cons_self (by omega), _, rfl, by omega, by omega, ?_⟩
          rw [u8_xor, Int.toNat_natCast]
          refine StB.t (h8.quiet hx9) .head (by omega) fun w10 h10 => ?_
          have e3 : stQ n lost v' (stP n lost v') = (stP n lost v').set (n + 1) (vf (stP n lost v') (n + 1) ^^^ qS v') := if_pos hm
          rw [← e3] at h10
          exact ⟨_, trivial, by rw [stQ_len, hpl, hv'], fun c hc => by rw [out_end hv' c hc, hout c hc], filled_end hv' hl2 hnd hr hA, h10⟩
        · have e3 : stQ n lost v' (stP n lost v') = stP n lost v' := if_neg hm
          exact ⟨stQ n lost v' (stP n lost v'), trivial, by rw [stQ_len, hpl, hv'], fun c hc => by rw [out_end hv' c hc, hout c hc], filled_end hv' hl2 hnd hr hA, by rw [e3]; exact h8.quiet hx9⟩
      refine (has_spec (l := lost) (by omega) (n : Int) (c := d) (hq.ext h7.chg.ext)).mono fun e w11 ⟨he, hx11⟩ => ⟨_, he, dec_t fun hm => ?_, dec_f fun hm => ?_⟩
      · refine ⟨_, rfl, by omega, by omega, _, by rw [Int.toNat_natCast]; exact row_byte (h7.quiet hx11) List.mem_cons_self (by omega), _, rfl, by omega, by omega, ?_⟩
        rw [u8_xor, Int.toNat_natCast]
        refine StB.t (h7.quiet hx11) .head (by omega) fun w12 h12 => main2 w12 ?_
        have e3 : stP n lost v' = v'.set n (vf v' n ^^^ pS v') := if_pos hm
        rw [e3]; exact h12
      · have e3 : stP n lost v' = v' := if_neg hm
        exact main2 w11 (by rw [e3]; exact h7.quiet hx11)
    have hdm : ∀ x, x ∈ dt n lost ↔ x ∈ lost ∧ x < n := fun x => dt_mem
    have hdnd : (dt n lost).Nodup := hnd.filter _
    have hdl := dt_len n lost
    generalize hD : dt n lost = D at h3 main hdm hdnd hdl
    refine ⟨beq_t fun hl1 => ?_, beq_f fun hl1 => ⟨beq_t fun h => absurd h hl1, beq_f fun _ => ⟨beq_t fun hl2' => ?_, beq_f fun hl2' => ?_⟩⟩⟩
    · obtain ⟨x, rfl⟩ : ∃ x, D = [x] := by
        match D, hl1 with
        | [x], _ => exact ⟨x, rfl⟩
        | [], h => simp at h
        | _ :: _ :: _, h => simp at h; omega
      obtain ⟨hxm, hxn⟩ := (hdm x).1 (by simp)
      have hx0 := (hr x hxm).1
      obtain ⟨dd, rfl⟩ : ∃ dd : Nat, x = (dd : Int) := ⟨x.toNat, by omega⟩
      have hddn : dd < n := by omega
      obtain ⟨kd, rfl⟩ : ∃ kd, g = some kd := rowP.pos (h3.says List.mem_cons_self) (by simp)
      have cellD : ∀ {w' : World} {v' : Txt}, T [] w0 w' (rowP 3 1 (some kd) [(dd : Int)].length cd (intsI [(dd : Int)]) :: rowP 5 1 (some b) (n + 2) cap (bvals v') :: Γ) → w'.cell? ⟨kd, 0, none⟩ = some (.int .i64 (dd : Int)) := fun h => rowP.cell (h.says List.mem_cons_self) rfl
      have hzd := hz dd hxm
      refine (has_spec (l := lost) (by omega) (n : Int) (c := d) (hq.ext h3.chg.ext)).mono fun e w13 ⟨he, hx13⟩ => ?_
      have h13 := h3.quiet hx13
      refine ⟨_, he, fun hb => ?_, fun hb => ⟨beq_t fun _ => ?_, beq_f fun h => absurd rfl h⟩⟩
      · have hm : (n : Int) ∉ lost := by simpa using hb
        refine ⟨_, rfl, by omega, by simp, _, cellD h13, _, rfl, by omega, by omega, ?_⟩
        rw [Int.toNat_natCast]
        refine StB.t h13 (.tail .head) (by omega) fun w14 h14 => ?_
        refine main (v.set dd (pS v)) w14 (by simp [hv]) (fun c hc => vf_out (by omega) (fun e => hc (by rw [e]; exact hxm)) _) ⟨fun y hy => ⟨fun _ => ?_, fun h => absurd h hm⟩, fun h => by rw [hD] at h; simp at h⟩ (h14.swap (.swap _ _ _))
        have := put_p (v := v) (d := dd) (by omega) hzd
        rw [en] at this; exact this
      · have hm : (n : Int) ∈ lost := by simpa using hb
        obtain ⟨s, hs⟩ := solve_q (d := dd) (by omega) (qS v)
        refine ⟨fun vs w' => ∃ i : Nat, vs = [.int .i64 (i : Int)] ∧ i ≤ 256 ∧ T [] w0 w' (rowP 3 1 (some kd) [(dd : Int)].length cd (intsI [(dd : Int)]) :: rowP 5 1 (some b) (n + 2) cap (bvals (if s.toNat < i then v.set dd s else v)) :: Γ), fun vs _ => match vs with | [.int _ i] => (256 - i).toNat | _ => 0, ⟨0, rfl, by omega, by rw [if_neg (by omega)]; exact h13⟩, ?_⟩
        rintro vs w15 ⟨i, rfl, hi, h15⟩
        refine ⟨_, rfl, dec_t fun hlt => ?_, dec_f fun hge => ?_⟩
        · have hlt : i < 256 := by omega
          have hms : ((256 : Int) - IntKind.i64.wrap ((i : Int) + 1)).toNat < ((256 : Int) - (i : Int)).toNat := by rw [wrap64 _ (by omega) (by omega)]; omega
          have hnx : IntKind.i64.wrap ((i : Int) + 1) = ((i + 1 : Nat) : Int) := by rw [wrap64 _ (by omega) (by omega)]; omega
          refine ⟨_, rfl, by omega, by simp, _, cellD h15, ?_⟩
          refine (expR_spec (dd : Int) _).mono fun e w16 ⟨he, hx16⟩ => ⟨_, he, ?_⟩
          rw [exI_pos (by omega), ofNat_int hlt]
          refine (mulR_spec (UInt8.ofNat i) (ex dd) w16).mono fun e w17 ⟨he, hx17⟩ => ⟨_, he, beq_t fun hy => ?_, beq_f fun hn => ?_⟩
          · have h17 := h15.quiet (hx16.trans hx17)
            have hsi : UInt8.ofNat i = s := (hs _).1 (u8_inj.1 hy)
            have his := (try_iff hlt).1 hsi
            refine ⟨_, rfl, by omega, by simp, _, cellD h17, _, rfl, by omega, by omega, ?_⟩
            rw [Int.toNat_natCast]
            refine StB.t h17 (.tail .head) (by split <;> (try simp only [List.length_set]) <;> omega) fun w18 h18 => ⟨⟨i + 1, by rw [hnx], by omega, ?_⟩, hms⟩
            rw [if_neg (by omega), hsi] at h18
            rw [if_pos (by omega)]
            exact h18.swap (.swap _ _ _)
          · have hsi : i ≠ s.toNat := fun e => hn (u8_inj.2 ((hs _).2 ((try_iff hlt).2 e)))
            refine ⟨⟨i + 1, by rw [hnx], by omega, ?_⟩, hms⟩
            have : (s.toNat < i + 1) = (s.toNat < i) := by apply propext; omega
            simp only [this]
            exact h15.quiet (hx16.trans hx17)
        · have hie : i = 256 := by omega
          subst hie
          rw [if_pos s.toNat_lt] at h15
          refine main (v.set dd s) w15 (by simp [hv]) (fun c hc => vf_out (by omega) (fun e => hc (by rw [e]; exact hxm)) _) ⟨fun y hy => ⟨fun h => absurd hm h, fun _ => ?_⟩, fun h => by rw [hD] at h; simp at h⟩ h15
          have := put_q (v := v) (d := dd) (x := s) (by omega) hzd (by rw [← mulG_ex]; exact (hs s).2 rfl)
          rw [en] at this; exact this
    · obtain ⟨x, y, rfl⟩ : ∃ x y, D = [x, y] := by
        match D, hl2' with
        | [x, y], _ => exact ⟨x, y, rfl⟩
        | [], h => simp at h
        | [_], h => simp at h
        | _ :: _ :: _ :: _, h => simp at h; omega
      obtain ⟨hxm, hxn⟩ := (hdm x).1 (by simp)
      obtain ⟨hym, hyn⟩ := (hdm y).1 (by simp)
      have hx0 := (hr x hxm).1
      have hy0 := (hr y hym).1
      obtain ⟨dd, rfl⟩ : ∃ dd : Nat, x = (dd : Int) := ⟨x.toNat, by omega⟩
      obtain ⟨kk, rfl⟩ : ∃ kk : Nat, y = (kk : Int) := ⟨y.toNat, by omega⟩
      have hddn : dd < n := by omega
      have hkkn : kk < n := by omega
      have hdk : dd ≠ kk := fun e => by simp [e] at hdnd
      obtain ⟨kd, rfl⟩ : ∃ kd, g = some kd := rowP.pos (h3.says List.mem_cons_self) (by simp)
      have cell0 : ∀ {w' : World} {v' : Txt}, T [] w0 w' (rowP 3 1 (some kd) [(dd : Int), (kk : Int)].length cd (intsI [(dd : Int), (kk : Int)]) :: rowP 5 1 (some b) (n + 2) cap (bvals v') :: Γ) → w'.cell? ⟨kd, 0, none⟩ = some (.int .i64 (dd : Int)) := fun h => rowP.cell (h.says List.mem_cons_self) rfl
      have cell1 : ∀ {w' : World} {v' : Txt}, T [] w0 w' (rowP 3 1 (some kd) [(dd : Int), (kk : Int)].length cd (intsI [(dd : Int), (kk : Int)]) :: rowP 5 1 (some b) (n + 2) cap (bvals v') :: Γ) → w'.cell? (Addr.add ⟨kd, 0, none⟩ 1) = some (.int .i64 (kk : Int)) := fun h => by
        rw [addr_add]
        exact rowP.cell (h.says List.mem_cons_self) rfl
      obtain ⟨s, hs⟩ := solve_pq (d := dd) (k := kk) (by omega) (by omega) hdk (pS v) (qS v)
      refine ⟨fun vs w' => ∃ i : Nat, vs = [.int .i64 (i : Int)] ∧ i ≤ 256 ∧ T [] w0 w' (rowP 3 1 (some kd) [(dd : Int), (kk : Int)].length cd (intsI [(dd : Int), (kk : Int)]) :: rowP 5 1 (some b) (n + 2) cap (bvals (if s.toNat < i then (v.set dd s).set kk (s ^^^ pS v) else v)) :: Γ), fun vs _ => match vs with | [.int _ i] => (256 - i).toNat | _ => 0, ⟨0, rfl, by omega, by rw [if_neg (by omega)]; exact h3⟩, ?_⟩
      rintro vs w15 ⟨i, rfl, hi, h15⟩
      refine ⟨_, rfl, dec_t fun hlt => ?_, dec_f fun hge => ?_⟩
      · have hlt : i < 256 := by omega
        have hms : ((256 : Int) - IntKind.i64.wrap ((i : Int) + 1)).toNat < ((256 : Int) - (i : Int)).toNat := by rw [wrap64 _ (by omega) (by omega)]; omega
        have hnx : IntKind.i64.wrap ((i : Int) + 1) = ((i + 1 : Nat) : Int) := by rw [wrap64 _ (by omega) (by omega)]; omega
        refine ⟨fun w' => T [] w0 w' (rowP 3 1 (some kd) [(dd : Int), (kk : Int)].length cd (intsI [(dd : Int), (kk : Int)]) :: rowP 5 1 (some b) (n + 2) cap (bvals (if s.toNat < i then (v.set dd s).set kk (s ^^^ pS v) else v)) :: Γ), h15.drew, _, rfl, by omega, by simp, _, fun w' h => cell0 h, ?_⟩
        refine (expR_spec (dd : Int) _).mono fun e w16 ⟨he, hx16⟩ => ⟨_, he, h15.drew.quiet hx16, ?_⟩
        rw [exI_pos (show dd < 255 by omega), ofNat_int hlt]
        refine (mulR_spec (UInt8.ofNat i) (ex dd) w16).mono fun e w17 ⟨he, hx17⟩ => ⟨_, he, h15.drew.quiet (hx16.trans hx17), _, rfl, by omega, by simp, _, fun w' h => cell1 h, ?_⟩
        refine (expR_spec (kk : Int) _).mono fun e w18 ⟨he, hx18⟩ => ⟨_, he, h15.drew.quiet ((hx16.trans hx17).trans hx18), ?_⟩
        rw [exI_pos (show kk < 255 by omega), u8_xor]
        refine (mulR_spec (UInt8.ofNat i ^^^ pS v) (ex kk) w18).mono fun e w19 ⟨he, hx19⟩ => ?_
        have h19 := h15.drew.quiet (((hx16.trans hx17).trans hx18).trans hx19)
        refine ⟨_, he, h19, ?_⟩
        rw [u8_xor]
        refine ⟨beq_t fun hy => ?_, beq_f fun hn => ?_⟩
        · have hsi : UInt8.ofNat i = s := (hs _).1 (u8_inj.1 hy)
          have his := (try_iff hlt).1 hsi
          refine ⟨_, rfl, by omega, by simp, _, cell0 h19, _, rfl, by omega, by omega, ?_⟩
          rw [Int.toNat_natCast]
          refine StB.t h19 (.tail .head) (by split <;> (try simp only [List.length_set]) <;> omega) fun w24 h24 => ?_
          have h24 := h24.swap (.swap _ _ _)
          rw [if_neg (by omega), hsi] at h24
          rw [hsi]
          refine ⟨_, rfl, by omega, by simp, _, cell1 h24, _, rfl, by omega, by omega, ?_⟩
          rw [Int.toNat_natCast]
          refine StB.t h24 (.tail .head) (by simp; omega) fun w25 h25 => ⟨⟨i + 1, by rw [hnx], by omega, ?_⟩, hms⟩
          rw [if_pos (by omega)]
          exact h25.swap (.swap _ _ _)
        · have hsi : i ≠ s.toNat := fun e => hn (u8_inj.2 ((hs _).2 ((try_iff hlt).2 e)))
          refine ⟨⟨i + 1, by rw [hnx], by omega, ?_⟩, hms⟩
          have : (s.toNat < i + 1) = (s.toNat < i) := by apply propext; omega
          simp only [this]
          exact h19
      · have hie : i = 256 := by omega
        subst hie
        rw [if_pos s.toNat_lt] at h15
        refine main ((v.set dd s).set kk (s ^^^ pS v)) w15 (by simp [hv]) (fun c hc => by rw [vf_out (by simp; omega) (fun e => hc (by rw [e]; exact hym)), vf_out (by omega) (fun e => hc (by rw [e]; exact hxm))]) ⟨fun y hy => by rw [hD] at hy; simp at hy, fun _ => ?_⟩ h15
        have := put_pq (v := v) (d := dd) (k := kk) (x := s) (by omega) (by omega) hdk (hz dd hxm) (hz kk hym) (by rw [← mulG_ex, ← mulG_ex]; exact (hs s).2 rfl)
        rw [en] at this; exact this
    · have hD0 : D = [] := by
        match D, hl1, hl2', hdl with
        | [], _, _, _ => rfl
        | [_], h, _, _ => simp at h
        | [_, _], _, h, _ => simp at h
        | _ :: _ :: _ :: _, _, _, h => simp at h; omega
      subst hD0
      exact main v w3 hv (fun c _ => rfl) ⟨fun y hy => by rw [hD] at hy; simp at hy, fun h => by rw [hD] at h; simp at h⟩ h3
end Go.Proofs.YtedbbdeeofdepaaGreat
end
section
/-! The reference's refill: Fill. -/
namespace Go.Proofs.YtedbbdeeofdepaaGreat
open Go.Sh Go.RowKit
set_option linter.unusedVariables false
set_option linter.unusedSimpArgs false
set_option maxRecDepth 20000
set_option maxHeartbeats 2000000
/-- rows of bytes, and the row of their slices -/
abbrev Rw := Option Nat × Nat × Txt
def rwA (r : Rw) : A := rowP 5 1 r.1 r.2.2.length r.2.1 (bvals r.2.2)
def rwV (r : Rw) : Value := .slice (ptr r.1) r.2.2.length r.2.1
def outA (rs : List Rw) : List A := rs.map rwA
def outV (rs : List Rw) : List Value := rs.map rwV
theorem outV_len (rs : List Rw) : (outV rs).length = rs.length := List.length_map ..
theorem pick_at : ∀ (l : List A) (i : Nat) (h : i < l.length), Pick l[i] l (l.eraseIdx i)
  | x :: l, 0, _ => .head
  | x :: l, i + 1, h => .tail (pick_at l i (by simpa using h))
theorem pick_out {rs : List Rw} {i : Nat} (h : i < rs.length) : Pick (rwA rs[i]) (outA rs) (outA (rs.eraseIdx i)) := by
  have := pick_at (outA rs) i (by simpa [outA] using h)
  have e : (outA rs).eraseIdx i = outA (rs.eraseIdx i) := by
    unfold outA
    induction rs generalizing i with
    | nil => rfl
    | cons x l ih =>
      cases i with
      | zero => rfl
      | succ i => simp only [List.map_cons, List.eraseIdx_cons_succ]; rw [ih (i := i) (by simpa using h) (by have := pick_at (outA l) i (by simpa [outA] using h); exact this)]
  rw [e] at this
  simpa [outA] using this
theorem perm_out {rs : List Rw} {i : Nat} (h : i < rs.length) (r : Rw) : (rwA r :: outA (rs.eraseIdx i)).Perm (outA (rs.set i r)) := by
  induction rs generalizing i with
  | nil => simp at h
  | cons x l ih =>
    cases i with
    | zero => exact .refl _
    | succ i => exact (List.Perm.swap _ _ _).trans (.cons _ (ih (by simpa using h)))
/-- columns, as far as they are built -/
def Built (F : List Txt) (k i : Nat) (rs : List Rw) : Prop := rs.length = F.length ∧ ∀ j (h : j < rs.length), (rs[j]).2.2 = (F.getD j []).take (if j < i then k + 1 else k)
theorem fillR_spec {L : List Txt} {lost : List Int} (hl : lost.length ≤ 100000) (hL : L.length ≤ 1000) (hS : Short L) {p q : Option Addr} {c d : Nat} (hd : lost.length ≤ d) {w : World} (hp : strsL w p L) (hq : intsL w q lost) :
    Calls Tryz.prog 66 #[.slice p L.length c, .slice q lost.length d] w fun e w' => (OkM L lost ∧ lost.length ≤ 2 ∧ ∃ b cap, e = .returned (.tuple #[.slice (some ⟨b, 0, none⟩) L.length cap, .int .i64 0]) ∧ T [] w w' [rowP 9 1 (some b) L.length cap (txts (fillF L lost))]) ∨
      (∃ n : Int, n ≠ 0 ∧ e = .returned (.tuple #[.slice none 0 0, .int .i64 n]) ∧ Ext w w' ∧ (OkM L lost → 2 < lost.length ∧ n = 60) ∧ (¬ OkM L lost → n = 1)) := by
  refine (revetmentref06_Fill_calls (R := fun v w' => (OkM L lost ∧ lost.length ≤ 2 ∧ ∃ b cap, v = .tuple #[.slice (some ⟨b, 0, none⟩) L.length cap, .int .i64 0] ∧ T [] w w' [rowP 9 1 (some b) L.length cap (txts (fillF L lost))]) ∨
      (∃ n : Int, n ≠ 0 ∧ v = .tuple #[.slice none 0 0, .int .i64 n] ∧ Ext w w' ∧ (OkM L lost → 2 < lost.length ∧ n = 60) ∧ (¬ OkM L lost → n = 1))) ?_).mono fun e w' ⟨v, he, h⟩ => by
    rcases h with ⟨h1, h2, b, cap, hv, h3⟩ | ⟨n, h1, hv, h3⟩
    · exact .inl ⟨h1, h2, b, cap, by rw [he, hv], h3⟩
    · exact .inr ⟨n, h1, by rw [he, hv], h3⟩
  unfold revetmentref06_Fill
  refine (mayR_spec (by omega) (by omega) hd hp hq).mono fun e w1 ⟨n, he, hx1, hok, hno⟩ => ⟨n, he, bne_t fun hn => .inr ⟨n, hn, rfl, hx1, fun hk => ?_, hno⟩, bne_f fun hn => ?_⟩
  · have := hok hk
    by_cases h : lost.length > 2
    · rw [if_pos h] at this; exact ⟨h, this⟩
    · rw [if_neg h] at this; exact absurd this hn
  have hk : OkM L lost := Classical.byContradiction fun h => by have := hno h; omega
  have hl2 : lost.length ≤ 2 := by
    have := hok hk
    by_cases h : lost.length > 2
    · rw [if_pos h] at this; omega
    · omega
  have n4 := hk.n4
  have n10 := hk.n10
  obtain ⟨m, hm4, hm⟩ := hk.lens
  have hF := fill_col hk hl2 hm
  have hmiss : ∃ j, j < L.length ∧ (j : Int) ∉ lost := Classical.byContradiction fun h => by
    have := cover (n := L.length) (l := lost) fun j hj => Classical.byContradiction fun hn => h ⟨j, hj, hn⟩
    omega
  have hsize : ∀ r, SizeP L lost r → r = (m : Int) := fun r hr => by
    obtain ⟨j, hj, hjn⟩ := hmiss
    rcases hr with ⟨m', rfl, _, h⟩ | ⟨_, h | ⟨i, k, hi, hk', h1, h2, hne⟩⟩
    · have e1 := h j hj hjn; have e2 := hm j hj hjn; omega
    · exact absurd (h j hj) hjn
    · exact absurd (by rw [hm i hi h1, hm k hk' h2]) hne
  obtain ⟨n, hn2⟩ : ∃ n, L.length = n + 2 := ⟨L.length - 2, by omega⟩
  have hfl := hF.len
  generalize hFF : fillF L lost = F at hF hfl
  have hFlen : ∀ j, j < F.length → (F.getD j []).length = m := hF.all
  refine Alloc.t ((T.nil w).quiet hx1) fun k20 w2 h2 => ?_
  have h2 : T [] w w2 (rowP 92 1 (some k20) 0 0 (outV []) :: outA []) := blk_row h2 rfl rfl (by decide)
  refine ⟨fun vs w' => ∃ (i : Nat) (g : Option Nat) (cap : Nat) (rs : List Rw), vs = [.slice (ptr g) i cap, .int .i64 (i : Int)] ∧ i ≤ L.length ∧ rs.length = i ∧ (∀ r ∈ rs, r.2.2 = []) ∧ T [] w w' (rowP 92 1 g i cap (outV rs) :: outA rs), fun vs _ => match vs with | [_, .int _ i] => (L.length - i).toNat | _ => 0, ⟨0, some k20, 0, [], rfl, by omega, rfl, by simp, h2⟩, ?_⟩
  rintro vs w3 ⟨i, g, cap, rs, rfl, hi, hrl, hre, h3⟩
  refine ⟨_, _, _, _, rfl, dec_t fun hlt => ?_, dec_f fun hge => ?_⟩
  · have hlt : i < L.length := by omega
    refine Alloc.t h3 fun k28 w4 h4 => ?_
    have h4 : T [] w w4 (rwA (some k28, 0, []) :: rowP 92 1 g i cap (outV rs) :: outA rs) := blk_row h4 rfl rfl (Nat.zero_le _)
    refine push1_t (i := Tryz.t92) (z := .slice none 0 0) (by kernel_rfl) (by kernel_rfl) (by kernel_rfl) (by kernel_rfl) (by kernel_rfl) (by kernel_rfl) h4 (.tail .head) rfl (by omega) fun g2 cap2 w8 h8 => ⟨⟨i + 1, g2, cap2, rs ++ [(some k28, 0, [])], ?_, by omega, by simp [hrl], ?_, ?_⟩, ?_⟩
    · rw [wrap64 _ (by omega) (by omega)]; rfl
    · intro r hr
      rcases List.mem_append.1 hr with hr | hr
      · exact hre r hr
      · rw [List.mem_singleton.1 hr]
    · have e1 : outV rs ++ [.slice (some ⟨k28, 0, none⟩) 0 0] = outV (rs ++ [(some k28, 0, [])]) := by simp [outV, rwV, ptr]
      rw [e1] at h8
      refine h8.swap (.cons _ ?_)
      have e2 : outA (rs ++ [(some k28, 0, [])]) = outA rs ++ [rwA (some k28, 0, [])] := by simp [outA]
      rw [e2]
      exact (List.perm_append_singleton _ _).symm
    · show ((L.length : Int) - IntKind.i64.wrap ((i : Int) + 1)).toNat < ((L.length : Int) - (i : Int)).toNat
      rw [wrap64 _ (by omega) (by omega)]; omega
  have hie : i = L.length := by omega
  subst hie
  obtain ⟨bo, rfl⟩ : ∃ b, g = some b := rowP.pos (h3.says List.mem_cons_self) (by omega)
  have hB0 : Built F 0 0 rs := ⟨by omega, fun j h => by rw [hre _ (List.getElem_mem h)]; simp⟩
  refine ⟨fun vs w' => ∃ (k : Nat) (rs : List Rw), vs = [.int .i64 (k : Int)] ∧ k ≤ m ∧ Built F k 0 rs ∧ T [] w w' (rowP 92 1 (some bo) L.length cap (outV rs) :: outA rs), fun vs _ => match vs with | [.int _ k] => (m - k).toNat | _ => 0, ⟨0, rs, rfl, by omega, hB0, h3⟩, ?_⟩
  rintro vs w7 ⟨k, rs, rfl, hkm, hB, h7⟩
  refine ⟨_, rfl, ?_⟩
  refine (size_spec' (by omega) (by omega) (c := c) (d := d) (hp.ext h7.chg.ext) (hq.ext h7.chg.ext)).mono fun e w8 ⟨r, he, hr, hx8⟩ => ⟨r, he, ?_⟩
  obtain rfl := hsize r hr
  have h8 := h7.quiet hx8
  refine ⟨dec_t fun hlt => ?_, dec_f fun hge => ?_⟩
  · have hlt : k < m := by omega
    refine (at06_spec (L := L) (lost := lost) (k := k) (by omega) hL (fun j hj hn => by rw [hm j hj hn]; exact hlt) (c := c) (d := d) hp hq h8).mono fun e w9 ⟨g9, cap9, he, h9⟩ => ⟨_, _, _, he, ?_⟩
    obtain ⟨b9, rfl⟩ : ∃ b, g9 = some b := rowP.pos (h9.says List.mem_cons_self) (by omega)
    have hzf : ∀ j : Nat, j < L.length → vf (atL L lost k) j = atZ L lost k j := fun j hj => by simp [vf, atL, List.getD, hj]
    rw [hn2] at h9 ⊢
    refine (one_spec (v := atL L lost k) (n := n) (by rw [atL_len, hn2]) (by omega) (by omega) hl2 hk.nodup (fun x hx => by have := hk.rng x hx; omega) (fun j hj => ?_) (d := d) hq h9).mono fun e w10 ⟨v', he, hvl, hvo, hvf, h10⟩ => ⟨_, _, _, he, ?_⟩
    · have := hk.rng _ hj
      rw [hzf j (by omega)]
      exact if_pos hj
    have hcol : ∀ j, j < n + 2 → vf v' j = (F.getD j []).getD k 0 := by
      refine filled_unique (n := n) (by omega) hl2 hk.nodup (fun x hx => by have := hk.rng x hx; omega) hvf (by have := hF.fil k; rw [show L.length - 2 = n by omega] at this; exact this) fun j hj hn => ?_
      rw [hvo j hn, hzf j (by omega)]
      unfold atZ
      rw [if_neg hn, hF.out j hn]
    rw [← hn2] at h10 hcol hvl ⊢
    have h10 : T [] w w10 (rowP 92 1 (some bo) L.length cap (outV rs) :: rowP 5 1 (some b9) L.length cap9 (bvals v') :: outA rs) := h10.swap (.swap _ _ _)
    refine ⟨fun vs w' => ∃ (i : Nat) (rs : List Rw), vs = [.int .i64 (i : Int)] ∧ i ≤ L.length ∧ Built F k i rs ∧ T [] w w' (rowP 92 1 (some bo) L.length cap (outV rs) :: rowP 5 1 (some b9) L.length cap9 (bvals v') :: outA rs), fun vs _ => match vs with | [.int _ i] => (L.length - i).toNat | _ => 0, ⟨0, rs, rfl, by omega, hB, h10⟩, ?_⟩
    rintro vs w11 ⟨i, rs, rfl, hi, hB, h11⟩
    refine ⟨_, rfl, dec_t fun hlti => ?_, dec_f fun hgei => ?_⟩
    · have hlti : i < L.length := by omega
      have hir : i < rs.length := by rw [hB.1]; omega
      have hou : (outV rs)[i]? = some (rwV rs[i]) := by simp [outV, hir]
      have hcb : rs[i].2.2 = (F.getD i []).take k := by have := hB.2 i hir; rw [if_neg (by omega)] at this; exact this
      have readO : ∀ {w' : World} {Γ : List A}, T [] w w' Γ → rowP 92 1 (some bo) L.length cap (outV rs) ∈ Γ → w'.cell? (Addr.add ⟨bo, 0, none⟩ (((i : Int)).toNat * 1)) = some (rwV rs[i]) := fun h hm => by
        rw [Int.toNat_natCast, addr_add, Nat.zero_add, Nat.mul_one]
        exact rowP.cell (h.says hm) hou
      have readB : ∀ {w' : World} {Γ : List A}, T [] w w' Γ → rowP 5 1 (some b9) L.length cap9 (bvals v') ∈ Γ → w'.cell? (Addr.add ⟨b9, 0, none⟩ (((i : Int)).toNat * 1)) = some (.int .u8 ((vf v' i).toNat : Int)) := fun h hm => by
        rw [Int.toNat_natCast]
        exact row_byte h hm (by omega)
      refine ⟨fun w' => w'.cell? (Addr.add ⟨bo, 0, none⟩ (((i : Int)).toNat * 1)) = some (rwV rs[i]) ∧ w'.cell? (Addr.add ⟨b9, 0, none⟩ (((i : Int)).toNat * 1)) = some (.int .u8 ((vf v' i).toNat : Int)), ⟨readO h11.drew List.mem_cons_self, readB h11.drew (List.mem_cons_of_mem _ List.mem_cons_self)⟩, _, rfl, by omega, by omega, ptr (rs[i]).1, (rs[i]).2.2.length, (rs[i]).2.1, fun w' h => h.1, _, rfl, by omega, by omega, _, fun w' h => h.2, ?_⟩
      refine Alloc.t h11.drew fun k60 w12 h12 => ⟨⟨readO h12 (List.mem_cons_of_mem _ List.mem_cons_self), readB h12 (List.mem_cons_of_mem _ (List.mem_cons_of_mem _ List.mem_cons_self))⟩, ?_⟩
      have hrl : rs[i].2.2.length = k := by rw [hcb, List.length_take, hFlen i (by omega)]; omega
      obtain ⟨g', cap', w13, hrun, h13⟩ := append_t (P := Tryz.prog) (t := 92) (ty := 92) (e := 5) (i := Tryz.t5) (z := .int .u8 0) (size := 1) #[false, false] (by kernel_rfl) (by kernel_rfl) (by kernel_rfl) (by kernel_rfl) (by rfl)
        h12 (.tail (.tail (.tail (pick_out hir)))) (a := ⟨k60, 0, none⟩) (m := 1) (c := 1) (news := [.int .u8 ((vf v' i).toNat : Int)]) rfl (fun j u hu => by
          match j, hu with
          | 0, hu =>
            cases hu
            rw [addr_add]
            exact h12.ld (b := k60) (i := 0) List.mem_cons_self rfl) (fun u hu => by
          rw [List.mem_singleton.1 hu]; rfl) (by simp only [maxLen]; omega) (by
          have : (Tryz.t5).bytes = 1 := by kernel_rfl
          rw [this]; omega)
      have enew : bvals rs[i].2.2 ++ [.int .u8 ((vf v' i).toNat : Int)] = bvals ((F.getD i []).take (k + 1)) := by
        rw [hcb, hcol i hlti]
        refine bvals_next ?_
        have := hFlen i (by omega)
        simp only [List.getD_eq_getElem?_getD] at this ⊢
        rw [List.getElem?_eq_getElem (by omega)]; rfl
      rw [enew] at h13
      refine ⟨_, _, _, w13, hrun, ⟨readO h13 (List.mem_cons_of_mem _ (List.mem_cons_of_mem _ List.mem_cons_self)), readB h13 (List.mem_cons_of_mem _ (List.mem_cons_of_mem _ (List.mem_cons_of_mem _ List.mem_cons_self)))⟩, _, rfl, by omega, by omega, ?_⟩
      have hlen' : ((F.getD i []).take (k + 1)).length = rs[i].2.2.length + 1 := by rw [List.length_take, hFlen i (by omega), hrl]; omega
      rw [addr_add, Nat.zero_add, Nat.mul_one, Int.toNat_natCast]
      refine StRow.t h13 (.tail (.tail .head)) (by rw [outV_len]; exact hir) rfl fun w14 h14 => ⟨⟨i + 1, rs.set i (g', cap', (F.getD i []).take (k + 1)), ?_, by omega, ⟨by simp [hB.1], fun j hj => ?_⟩, ?_⟩, ?_⟩
      · rw [wrap64 _ (by omega) (by omega)]; rfl
      · rw [List.getElem_set]
        by_cases e : i = j
        · subst e; rw [if_pos rfl, if_pos (by omega)]
        · rw [if_neg e, hB.2 j (by simpa using hj)]
          by_cases h1 : j < i
          · rw [if_pos h1, if_pos (by omega)]
          · rw [if_neg h1, if_neg (by omega)]
      · have eo : (outV rs).set i (.slice (ptr g') (rs[i].2.2.length + 1) cap') = outV (rs.set i (g', cap', (F.getD i []).take (k + 1))) := by
          unfold outV
          rw [List.map_set]
          unfold rwV
          rw [hlen']
        rw [eo] at h14
        have h15 := T.dropAt h14 (.tail (.tail .head))
        refine h15.swap (.cons _ ((List.Perm.swap _ _ _).trans (.cons _ ?_)))
        have er : rowP 5 1 g' (rs[i].2.2.length + 1) cap' (bvals ((F.getD i []).take (k + 1))) = rwA (g', cap', (F.getD i []).take (k + 1)) := by
          unfold rwA
          rw [hlen']
        rw [er]
        exact perm_out hir _
      · show ((L.length : Int) - IntKind.i64.wrap ((i : Int) + 1)).toNat < ((L.length : Int) - (i : Int)).toNat
        rw [wrap64 _ (by omega) (by omega)]; omega
    · have hie : i = L.length := by omega
      subst hie
      refine ⟨⟨k + 1, rs, ?_, by omega, ⟨hB.1, fun j hj => ?_⟩, T.dropAt h11 (.tail .head)⟩, ?_⟩
      · rw [wrap64 _ (by omega) (by omega)]; rfl
      · rw [hB.2 j hj, if_pos (by have := hB.1; omega), if_neg (by omega)]
      · show ((m : Int) - IntKind.i64.wrap ((k : Int) + 1)).toNat < ((m : Int) - (k : Int)).toNat
        rw [wrap64 _ (by omega) (by omega)]; omega
  · have hke : k = m := by omega
    subst hke
    have hall : ∀ j (h : j < rs.length), rs[j].2.2 = F.getD j [] := fun j h => by
      rw [hB.2 j h, if_neg (by omega), List.take_of_length_le (by have := hB.1; rw [hFlen j (by omega)]; omega)]
    have hrl := hB.1
    refine Alloc.t h8 fun k63 w15 h15 => ?_
    have h15 : T [] w w15 (rowP 9 1 (some k63) 0 0 (txts (F.take 0)) :: rowP 92 1 (some bo) L.length cap (outV rs) :: outA rs) := blk_row h15 rfl rfl (by decide)
    refine ⟨fun vs w' => ∃ (i : Nat) (g : Option Nat) (cp : Nat), vs = [.slice (ptr g) i cp, .int .i64 (i : Int)] ∧ i ≤ L.length ∧ T [] w w' (rowP 9 1 g i cp (txts (F.take i)) :: rowP 92 1 (some bo) L.length cap (outV rs) :: outA rs), fun vs _ => match vs with | [_, .int _ i] => (L.length - i).toNat | _ => 0, ⟨0, some k63, 0, rfl, by omega, h15⟩, ?_⟩
    rintro vs w16 ⟨i, g, cp, rfl, hi, h16⟩
    refine ⟨_, _, _, _, rfl, dec_t fun hlti => ?_, dec_f fun hgei => ?_⟩
    · have hlti : i < L.length := by omega
      have hir : i < rs.length := by omega
      have hou : (outV rs)[i]? = some (rwV rs[i]) := by simp [outV, hir]
      refine ⟨_, rfl, by omega, by omega, _, _, _, by rw [Int.toNat_natCast, addr_add, Nat.zero_add, Nat.mul_one]; exact rowP.cell (h16.says (List.mem_cons_of_mem _ List.mem_cons_self)) hou, ?_⟩
      refine ⟨_, w16, row_string h16 (List.mem_cons_of_mem _ (List.mem_cons_of_mem _ (List.mem_map.2 ⟨rs[i], List.getElem_mem hir, rfl⟩))), ?_⟩
      refine push1_t (i := Tryz.t9) (z := .string (ByteArray.mk #[])) (by kernel_rfl) (by kernel_rfl) (by kernel_rfl) (by kernel_rfl) (by kernel_rfl) (by kernel_rfl) h16 .head rfl (by omega) fun g2 cap2 w8 h8 => ⟨⟨i + 1, g2, cap2, ?_, by omega, ?_⟩, ?_⟩
      · rw [wrap64 _ (by omega) (by omega)]; rfl
      · have e1 : txts (F.take i) ++ [.string (strB rs[i].2.2)] = txts (F.take (i + 1)) := by
          have hiF : i < F.length := by omega
          have hg : F.getD i [] = F[i] := by simp [List.getD, hiF]
          rw [hall i hir, hg, List.take_add_one, List.getElem?_eq_getElem hiF]
          unfold txts
          rw [List.map_append]; rfl
        rw [e1] at h8
        exact h8
      · show ((L.length : Int) - IntKind.i64.wrap ((i : Int) + 1)).toNat < ((L.length : Int) - (i : Int)).toNat
        rw [wrap64 _ (by omega) (by omega)]; omega
    · have hie : i = L.length := by omega
      subst hie
      rw [List.take_of_length_le (by omega)] at h16
      obtain ⟨b, rfl⟩ : ∃ b, g = some b := rowP.pos (h16.says List.mem_cons_self) (by omega)
      refine .inl ⟨hk, hl2, b, cp, rfl, ?_⟩
      have h17 : T [] w w16 ([rowP 9 1 (some b) L.length cp (txts F)] ++ (rowP 92 1 (some bo) L.length cap (outV rs) :: outA rs)) := h16
      exact T.dropAll (h17.swap List.perm_append_comm)
end Go.Proofs.YtedbbdeeofdepaaGreat
end
section
/-! row: the column of a role, and back. -/
namespace Go.Proofs.YtedbbdeeofdepaaGreat
open Go.Sh Go.RowKit
set_option linter.unusedVariables false
set_option linter.unusedSimpArgs false
theorem role_colR {s : RwS} (hG : OkG s.c s.k s.r) {row role col : Int} (hr : 0 ≤ row ∧ row < s.r) (h0 : 0 ≤ role ∧ role < s.c) (hc : 0 ≤ col ∧ col < s.c) : roleG s.c s.k s.r row col = role ↔ col = colR s row role := by
  have hf : 0 ≤ firstG s.c row ∧ firstG s.c row < s.c := ⟨Int.emod_nonneg _ (by have := hG.1; omega), Int.emod_lt_of_pos _ (by have := hG.1; omega)⟩
  rw [role_v (inG_of hG hr hc), colR_v hG hr h0]
  split <;> (try split) <;> (try split) <;> omega
end Go.Proofs.YtedbbdeeofdepaaGreat
end
section
/-! The reference's row: May, check, column, missing, Read, Lost, Filled, Sector. -/
namespace Go.Proofs.YtedbbdeeofdepaaGreat
open Go.Sh Go.RowKit
set_option linter.unusedVariables false
set_option linter.unusedSimpArgs false
set_option maxRecDepth 20000
set_option maxHeartbeats 1000000
structure RrW (s : RwS) (ds : List Od) (bu : List Int) (w : World) : Prop where
  ow : ∃ F w0 X, Ow (rsK ds) F w0 w X
  pd : ptrsAt w s.pd (blks ds)
  pb : intsL w s.pb bu
theorem RrW.ext {s : RwS} {ds : List Od} {bu : List Int} {w w' : World} (h : RrW s ds bu w) (hx : Ext w w') : RrW s ds bu w' := by
  obtain ⟨⟨F, w0, X, H⟩, h2, h3⟩ := h
  exact ⟨⟨F, w0, X, H.quiet hx⟩, h2.ext hx, h3.ext' hx⟩
theorem RrW.drive {s : RwS} {ds : List Od} {bu : List Int} {w : World} (h : RrW s ds bu w) {k p : Nat} {a : AD} (hk : ds[k]? = some (some (p, a))) : ∃ F w0 X, Rf p a F w0 w X := by
  obtain ⟨⟨F, w0, X, H⟩, _, _⟩ := h
  obtain ⟨Z, h1, _⟩ := Ow.rdrive H hk
  exact ⟨F, w0, _, h1⟩
theorem Rf.safes {p : Nat} {a : AD} {F : List Nat} {w0 w : World} {X : List A} (h : Rf p a F w0 w X) : ∃ g c, w.cell? ⟨p, 0, none⟩ = some (.slice (ptr g) a.safe.length c) := by
  obtain ⟨R, rfl, hA, hT⟩ := h
  rw [← hA.safe]
  exact ⟨R.gs, R.cs, hT.ld (b := R.p) (i := 0) (by repeat (first | exact List.Mem.head _ | refine List.Mem.tail _ ?_)) rfl⟩
theorem rmay16_spec {s : RwS} {ds : List Od} {bu : List Int} {w : World} (h : RrW s ds bu w) (hl : ds.length ≤ 1000000) : Ret Tryz.prog 31 #[.agg (rwC s ds.length bu.length)] w (.bool (decide (RMay s ds bu))) := by
  refine ret_of (revetmentref16_May_calls ?_)
  unfold revetmentref16_May
  refine Alloc.t (T.nil w) fun k1 w1 h1 => ?_
  have h1 : T [] w w1 [blk k1 (rwC s ds.length bu.length) 33] := h1
  have no' : ∀ {w' : World}, Ext w w' → ¬ RMay s ds bu → RetR w (.bool (decide (RMay s ds bu))) (.bool false) w' := fun hx hn => ⟨by rw [decide_eq_false hn], hx⟩
  have c1 : ∀ {w' : World}, T [] w w' [blk k1 (rwC s ds.length bu.length) 33] → ∀ i v, (rwC s ds.length bu.length)[i]? = some v → w'.cell? ⟨k1, i, none⟩ = some v := fun h' i v hv => h'.ld (by repeat (first | exact List.Mem.head _ | refine List.Mem.tail _ ?_)) hv
  refine ⟨_, _, _, ⟨c1 h1 0 _ rfl, c1 h1 1 _ rfl, c1 h1 2 _ rfl⟩, ?_⟩
  refine (rcheck_spec s.c s.k s.r w1).mono fun e w2 ⟨he2, hx2⟩ => ⟨_, he2, ?_⟩
  have h2 := h1.quiet hx2
  refine ⟨bne_t fun hn => no' h2.chg.ext fun hm => hn (by rw [if_pos hm.1]), bne_f fun hz => ?_⟩
  have hG : OkG s.c s.k s.r := by
    by_cases hG : OkG s.c s.k s.r
    · exact hG
    · rw [if_neg hG] at hz; cases hz
  refine ⟨_, _, _, c1 h2 3 _ rfl, _, c1 h2 0 _ rfl, bne_t fun hd => no' h2.chg.ext fun hm => hd hm.2.1, bne_f fun hd => ?_⟩
  refine ⟨_, _, _, c1 h2 4 _ rfl, _, c1 h2 0 _ rfl, bne_t fun hb => no' h2.chg.ext fun hm => hb hm.2.2.1, bne_f fun hb => ?_⟩
  have hmay := rmay_any (s := s) (ds := ds) (bu := bu) hG hd hb
  refine ⟨fun vs w' => ∃ i : Nat, vs = [.int .i64 (i : Int)] ∧ i ≤ ds.length ∧ (ds.take i).any (smallO s) = false ∧ T [] w w' [blk k1 (rwC s ds.length bu.length) 33], fun vs _ => match vs with | [.int _ i] => (ds.length - i).toNat | _ => 0, ⟨0, rfl, by omega, rfl, h2⟩, ?_⟩
  rintro vs w3 ⟨i, rfl, hi, hs, h3⟩
  refine ⟨_, rfl, _, _, _, c1 h3 3 _ rfl, dec_t fun hlt => ?_, dec_f fun hge => ?_⟩
  · have hlt : i < ds.length := by omega
    have hy : ds[i]? = some ds[i] := List.getElem?_eq_getElem hlt
    have hnext : (ds.take (i + 1)).any (smallO s) = smallO s ds[i] := by rw [List.take_add_one, hy, List.any_append, hs]; simp
    have hmem : ds[i] ∈ ds := List.getElem_mem hlt
    have hms : ((ds.length : Int) - IntKind.i64.wrap ((i : Int) + 1)).toNat < ((ds.length : Int) - (i : Int)).toNat := by rw [wrap64 _ (by omega) (by omega)]; omega
    have hnx : IntKind.i64.wrap ((i : Int) + 1) = ((i + 1 : Nat) : Int) := by rw [wrap64 _ (by omega) (by omega)]; rfl
    generalize ds[i] = y at hy hnext hmem
    obtain ⟨a0, ha0, _⟩ := (h.ext h3.drew.chg.ext).pd.get (blks_get hy)
    have hcell : ∀ {w' : World}, Ext w w' → w'.cell? (Addr.add a0 ((i : Int).toNat * 1)) = some (.pointer (ptr (odB y))) := fun hx => by
      obtain ⟨a1, ha1, hc⟩ := (h.ext hx).pd.get (blks_get hy)
      rw [ha0] at ha1; cases ha1
      rw [Int.toNat_natCast]; exact hc
    cases y with
    | none =>
      refine ⟨fun w' => T [] w w' [blk k1 (rwC s ds.length bu.length) 33], h3.drew, _, _, _, fun w' h' => c1 h' 3 _ rfl, a0, ha0, by omega, by omega, _, fun w' h' => hcell h'.chg.ext, ?_⟩
      exact no rfl ⟨⟨i + 1, by rw [hnx], by omega, hnext, h3.drew⟩, hms⟩
    | some x =>
      obtain ⟨p, a⟩ := x
      obtain ⟨F, w0', X, hd⟩ := (h.ext h3.drew.chg.ext).drive hy
      obtain ⟨g, cp, hc⟩ := hd.safes
      refine ⟨fun w' => T [] w w' [blk k1 (rwC s ds.length bu.length) 33] ∧ w'.cell? ⟨p, 0, none⟩ = some (.slice (ptr g) a.safe.length cp), ⟨h3.drew, hc⟩, _, _, _, fun w' h' => c1 h'.1 3 _ rfl, a0, ha0, by omega, by omega, _, fun w' h' => hcell h'.1.chg.ext, ?_⟩
      refine yes rfl ⟨_, _, _, fun w' h' => c1 h'.1 3 _ rfl, a0, ha0, by omega, by omega, _, fun w' h' => hcell h'.1.chg.ext, _, rfl, _, _, _, fun w' h' => h'.2, _, _, _, fun w' h' => ⟨c1 h'.1 0 _ rfl, c1 h'.1 1 _ rfl, c1 h'.1 2 _ rfl⟩, ?_⟩
      refine (rneed_spec s.c s.k s.r _).mono fun e w4 ⟨he4, hx4⟩ => ⟨_, he4, ⟨h3.drew.quiet hx4, cell_ext hx4 hc⟩, dec_t fun hsm => ?_, dec_f fun hsm => ?_⟩
      · refine no' (h3.drew.quiet hx4).chg.ext fun hm => ?_
        have : needG s.c s.k s.r ≤ (a.safe.length : Int) := hm.2.2.2 _ hmem _ rfl
        have hsm : ((a.safe.length : Nat) : Int) < needG s.c s.k s.r := hsm
        omega
      · exact ⟨⟨i + 1, by rw [hnx], by omega, by rw [hnext]; exact decide_eq_false hsm, h3.drew.quiet hx4⟩, hms⟩
  · have hie : i = ds.length := by omega
    subst hie
    rw [List.take_length] at hs
    exact ⟨by rw [decide_eq_true (hmay.2 hs)], h3.chg.ext⟩
theorem rcheck16_spec {s : RwS} {ds : List Od} {bu : List Int} {w : World} (h : RrW s ds bu w) (hl : ds.length ≤ 1000000) (row off : Int) : Ret Tryz.prog 61 #[.agg (rwC s ds.length bu.length), .int .i64 row, .int .i64 off] w (.int .i64 (atE s ds bu row off)) := by
  refine ret_of (revetmentref16_check_calls ?_)
  unfold revetmentref16_check
  refine Alloc.t (T.nil w) fun k1 w1 h1 => ?_
  have h1 : T [] w w1 [blk k1 (rwC s ds.length bu.length) 33] := h1
  have c1 : ∀ {w' : World}, T [] w w' [blk k1 (rwC s ds.length bu.length) 33] → ∀ i v, (rwC s ds.length bu.length)[i]? = some v → w'.cell? ⟨k1, i, none⟩ = some v := fun h' i v hv => h'.ld (by repeat (first | exact List.Mem.head _ | refine List.Mem.tail _ ?_)) hv
  refine ⟨_, _, _, _, _, _, _, _, _, ⟨c1 h1 0 _ rfl, c1 h1 1 _ rfl, c1 h1 2 _ rfl, c1 h1 3 _ rfl, c1 h1 4 _ rfl⟩, ?_⟩
  refine (rmay16_spec (h.ext h1.chg.ext) hl).mono fun e w2 ⟨he2, hx2⟩ => ⟨_, he2, ?_⟩
  have h2 := h1.quiet hx2
  by_cases hM : RMay s ds bu
  · have e0 : atE s ds bu row off = if row < 0 ∨ row ≥ s.r ∨ off < 0 ∨ off ≥ s.k then 70 else 0 := by unfold atE; rw [if_pos hM]
    refine no (by rw [decide_eq_true hM]; rfl) ?_
    rw [e0]
    exact ⟨dec_t fun q1 => ⟨by rw [if_pos (by omega)], h2.chg.ext⟩, dec_f fun q1 => ⟨_, c1 h2 2 _ rfl, dec_t fun q2 => ⟨by rw [if_pos (by omega)], h2.chg.ext⟩, dec_f fun q2 => ⟨dec_t fun q3 => ⟨by rw [if_pos (by omega)], h2.chg.ext⟩, dec_f fun q3 => ⟨_, c1 h2 1 _ rfl, dec_t fun q4 => ⟨by rw [if_pos (by omega)], h2.chg.ext⟩, dec_f fun q4 => ⟨by rw [if_neg (by omega)], h2.chg.ext⟩⟩⟩⟩⟩
  · refine yes (by rw [decide_eq_false hM]; rfl) ⟨?_, h2.chg.ext⟩
    unfold atE; rw [if_neg hM]
theorem rcolumn16_spec {s : RwS} {n m : Nat} (hG : OkG s.c s.k s.r) {row role : Int} (hr : 0 ≤ row ∧ row < s.r) (h0 : 0 ≤ role ∧ role < s.c) (w : World) : Ret Tryz.prog 62 #[.agg (rwC s n m), .int .i64 row, .int .i64 role] w (.int .i64 (colR s row role)) := by
  refine ret_of (revetmentref16_column_calls ?_)
  unfold revetmentref16_column
  refine Alloc.t (T.nil w) fun k1 w1 h1 => ?_
  have h1 : T [] w w1 [blk k1 (rwC s n m) 33] := h1
  have c1 : ∀ {w' : World}, T [] w w' [blk k1 (rwC s n m) 33] → ∀ i v, (rwC s n m)[i]? = some v → w'.cell? ⟨k1, i, none⟩ = some v := fun h' i v hv => h'.ld (by repeat (first | exact List.Mem.head _ | refine List.Mem.tail _ ?_)) hv
  have hb := colR_in hG hr h0
  have hc := hG.2.1
  refine ⟨fun vs w' => ∃ i : Nat, vs = [.int .i64 (i : Int)] ∧ (i : Int) ≤ colR s row role ∧ T [] w w' [blk k1 (rwC s n m) 33], fun vs _ => match vs with | [.int _ i] => (s.c - i).toNat | _ => 0, ⟨0, rfl, by omega, h1⟩, ?_⟩
  rintro vs w2 ⟨i, rfl, hi, h2⟩
  refine ⟨_, rfl, _, c1 h2 0 _ rfl, dec_t fun hlt => ?_, dec_f fun hge => by omega⟩
  refine ⟨_, _, _, ⟨c1 h2 0 _ rfl, c1 h2 1 _ rfl, c1 h2 2 _ rfl⟩, ?_⟩
  have hiff := role_colR (s := s) hG hr h0 (col := (i : Int)) ⟨by omega, hlt⟩
  refine (rrole_spec s.c s.k s.r row i w2).mono fun e w3 ⟨he3, hx3⟩ => ⟨_, he3, beq_t fun hq => ⟨by rw [← hiff.1 hq], (h2.quiet hx3).chg.ext⟩, beq_f fun hq => ⟨⟨i + 1, by rw [wrap64 _ (by omega) (by omega)]; rfl, ?_, h2.quiet hx3⟩, ?_⟩⟩
  · have : (i : Int) ≠ colR s row role := fun e => hq (hiff.2 e)
    omega
  · show (s.c - IntKind.i64.wrap ((i : Int) + 1)).toNat < (s.c - (i : Int)).toNat
    rw [wrap64 _ (by omega) (by omega)]; omega
/-- a column is missing -/
def missO (ds : List Od) (bu : List Int) (row : Int) (col : Nat) : Bool := decide (bu.getD col 0 ≤ row) || (thereO ds col).isNone
theorem missO_built (s : RwS) (ds : List Od) (bu : List Int) (row role : Int) : missO ds bu row (colR s row role).toNat = (builtO s ds bu row role).isNone := by
  unfold missO builtO
  by_cases h : bu.getD (colR s row role).toNat 0 ≤ row
  · rw [if_pos h, decide_eq_true h]; rfl
  · rw [if_neg h, decide_eq_false h]; rfl
theorem rmiss16_spec {s : RwS} {ds : List Od} {bu : List Int} {w : World} (h : RrW s ds bu w) (hl : ds.length ≤ 1000000) {col : Nat} (hc : col < ds.length) (hb : col < bu.length) (row : Int) : Ret Tryz.prog 63 #[.agg (rwC s ds.length bu.length), .int .i64 row, .int .i64 (col : Int)] w (.bool (missO ds bu row col)) := by
  refine ret_of (revetmentref16_missing_calls ?_)
  unfold revetmentref16_missing
  refine Alloc.t (T.nil w) fun k1 w1 h1 => ?_
  have h1 : T [] w w1 [blk k1 (rwC s ds.length bu.length) 33] := h1
  have hy : ds[col]? = some ds[col] := List.getElem?_eq_getElem hc
  have hth : thereO ds col = match ds[col] with
    | some x => if x.2.dead then none else some x
    | none => none := by unfold thereO; rw [List.getD_eq_getElem?_getD, hy]; rfl
  unfold missO
  rw [hth]
  generalize ds[col] = y at hy
  obtain ⟨a0, ha0, hcell⟩ := (h.ext h1.chg.ext).pd.get (blks_get hy)
  refine ⟨_, _, _, h1.ld (c := rwC s ds.length bu.length) (i := 3) (by repeat (first | exact List.Mem.head _ | refine List.Mem.tail _ ?_)) rfl, a0, ha0, by omega, by omega, _, by rw [Int.toNat_natCast]; exact hcell, ?_⟩
  cases y with
  | none => exact yes rfl ⟨by simp, h1.chg.ext⟩
  | some x =>
    obtain ⟨p, a⟩ := x
    obtain ⟨F, w0', X, hd⟩ := (h.ext h1.chg.ext).drive hy
    refine no rfl ⟨_, _, _, h1.ld (c := rwC s ds.length bu.length) (i := 3) (by repeat (first | exact List.Mem.head _ | refine List.Mem.tail _ ?_)) rfl, a0, ha0, by omega, by omega, _, by rw [Int.toNat_natCast]; exact hcell, _, rfl, a.dead, hd.dead, fun hdd => ⟨?_, h1.chg.ext⟩, fun hdd => ?_⟩
    · show _ = Value.bool (_ || (if a.dead = true then none else some (p, a)).isNone)
      rw [hdd]; simp
    · obtain ⟨b0, hb0, hbc⟩ := (h.ext h1.chg.ext).pb.get hb
      refine ⟨_, _, _, h1.ld (c := rwC s ds.length bu.length) (i := 4) (by repeat (first | exact List.Mem.head _ | refine List.Mem.tail _ ?_)) rfl, b0, hb0, by omega, by omega, _, by rw [Int.toNat_natCast]; exact hbc, ?_, h1.chg.ext⟩
      show _ = Value.bool (_ || (if a.dead = true then none else some (p, a)).isNone)
      rw [hdd]; simp
theorem rlost16_spec {s : RwS} {ds : List Od} {bu : List Int} {w : World} (h : RrW s ds bu w) (hl : ds.length ≤ 1000000) (row : Int) :
    Calls Tryz.prog 28 #[.agg (rwC s ds.length bu.length), .int .i64 row] w fun e w' => ∃ v, e = .returned v ∧ LoP (lostR s ds bu row) w v w' := by
  refine revetmentref16_Lost_calls ?_
  unfold revetmentref16_Lost
  refine Alloc.t (T.nil w) fun k2 w1 h1 => ?_
  have h1 : T [] w w1 [blk k2 (rwC s ds.length bu.length) 33] := h1
  have c1 : ∀ {w' : World} {Γ : List A}, T [] w w' Γ → blk k2 (rwC s ds.length bu.length) 33 ∈ Γ → ∀ i v, (rwC s ds.length bu.length)[i]? = some v → w'.cell? ⟨k2, i, none⟩ = some v := fun h' hm i v hv => h'.ld hm hv
  refine ⟨_, _, _, _, _, _, _, _, _, ⟨c1 h1 (by repeat (first | exact List.Mem.head _ | refine List.Mem.tail _ ?_)) 0 _ rfl, c1 h1 (by repeat (first | exact List.Mem.head _ | refine List.Mem.tail _ ?_)) 1 _ rfl, c1 h1 (by repeat (first | exact List.Mem.head _ | refine List.Mem.tail _ ?_)) 2 _ rfl, c1 h1 (by repeat (first | exact List.Mem.head _ | refine List.Mem.tail _ ?_)) 3 _ rfl, c1 h1 (by repeat (first | exact List.Mem.head _ | refine List.Mem.tail _ ?_)) 4 _ rfl⟩, ?_⟩
  refine (rcheck16_spec (h.ext h1.chg.ext) hl row 0).mono fun e w2 ⟨he2, hx2⟩ => ⟨_, he2, ?_⟩
  have h2 := h1.quiet hx2
  unfold lostR
  refine ⟨bne_t fun hn => ?_, bne_f fun hz => ?_⟩
  · rw [if_pos hn]
    exact ⟨rfl, h2.chg.ext⟩
  rw [if_neg (by omega)]
  obtain ⟨hM, hr, ho⟩ := atE_zero hz
  have hc := hM.1.1
  have hc2 := hM.1.2.1
  have hdl := hM.2.1
  have hbl := hM.2.2.1
  generalize hf : (fun i : Nat => (builtO s ds bu row (i : Int)).isNone) = f
  have hfi : ∀ i : Nat, (builtO s ds bu row (i : Int)).isNone = f i := fun i => by rw [← hf]
  refine Alloc.t h2 fun k15 w3 h3 => ?_
  have h3 : T [] w w3 [rowP 3 1 (some k15) (misL f 0).length 0 (intsI (misL f 0)), blk k2 (rwC s ds.length bu.length) 33] := blk_row (n := 0) (xs := []) h3 rfl rfl (by decide)
  refine ⟨fun vs w' => ∃ (i : Nat) (g : Option Nat) (cp : Nat), vs = [.slice (ptr g) (misL f i).length cp, .int .i64 (i : Int)] ∧ (i : Int) ≤ s.c ∧ T [] w w' [rowP 3 1 g (misL f i).length cp (intsI (misL f i)), blk k2 (rwC s ds.length bu.length) 33], fun vs _ => match vs with | [_, .int _ i] => (s.c - i).toNat | _ => 0, ⟨0, some k15, 0, rfl, by omega, h3⟩, ?_⟩
  rintro vs w5 ⟨i, g, cp, rfl, hi, h6⟩
  refine ⟨_, _, _, _, rfl, _, c1 h6 (by repeat (first | exact List.Mem.head _ | refine List.Mem.tail _ ?_)) 0 _ rfl, dec_t fun hlt => ?_, dec_f fun hge => ?_⟩
  · refine lex_t h6 fun h7 => ?_
    refine ⟨_, _, _, _, _, _, _, _, _, fun w' h' => ⟨c1 h' (by repeat (first | exact List.Mem.head _ | refine List.Mem.tail _ ?_)) 0 _ rfl, c1 h' (by repeat (first | exact List.Mem.head _ | refine List.Mem.tail _ ?_)) 1 _ rfl, c1 h' (by repeat (first | exact List.Mem.head _ | refine List.Mem.tail _ ?_)) 2 _ rfl, c1 h' (by repeat (first | exact List.Mem.head _ | refine List.Mem.tail _ ?_)) 3 _ rfl, c1 h' (by repeat (first | exact List.Mem.head _ | refine List.Mem.tail _ ?_)) 4 _ rfl⟩, _, _, _, _, _, _, _, _, _, fun w' h' => ⟨c1 h' (by repeat (first | exact List.Mem.head _ | refine List.Mem.tail _ ?_)) 0 _ rfl, c1 h' (by repeat (first | exact List.Mem.head _ | refine List.Mem.tail _ ?_)) 1 _ rfl, c1 h' (by repeat (first | exact List.Mem.head _ | refine List.Mem.tail _ ?_)) 2 _ rfl, c1 h' (by repeat (first | exact List.Mem.head _ | refine List.Mem.tail _ ?_)) 3 _ rfl, c1 h' (by repeat (first | exact List.Mem.head _ | refine List.Mem.tail _ ?_)) 4 _ rfl⟩, ?_⟩
    refine (rcolumn16_spec hM.1 hr (role := (i : Int)) ⟨by omega, hlt⟩ _).mono fun e w6 ⟨he6, hx6⟩ => ⟨_, he6, h7.quiet hx6, ?_⟩
    have h8 := h7.quiet hx6
    obtain ⟨e1, e2⟩ := colR_nat hM.1 hr (role := (i : Int)) ⟨by omega, hlt⟩
    have hmi := rmiss16_spec (h.ext h8.chg.ext) hl (col := (colR s row i).toNat) (by omega) (by omega) row
    rw [e1, missO_built, hfi] at hmi
    refine hmi.mono fun e w7 ⟨he7, hx7⟩ => ⟨_, he7, ?_⟩
    have h9 := h8.quiet hx7
    have hle := misL_le f i
    have hdec : (s.c - IntKind.i64.wrap ((i : Int) + 1)).toNat < (s.c - (i : Int)).toNat := by rw [wrap64 _ (by omega) (by omega)]; omega
    have hwr : IntKind.i64.wrap ((i : Int) + 1) = ((i + 1 : Nat) : Int) := by rw [wrap64 _ (by omega) (by omega)]; rfl
    refine ⟨fun hp => ?_, fun hp => ⟨⟨i + 1, g, cp, ?_, by omega, ?_⟩, hdec⟩⟩
    · refine push1_t (i := Tryz.t3) (z := .int .i64 0) (by kernel_rfl) (by kernel_rfl) (by kernel_rfl) (by kernel_rfl) (by kernel_rfl) (by kernel_rfl) h9 .head rfl (by omega) fun g2 cp2 w8 h10 => ?_
      rw [intsI_snoc, ← misL_yes hp] at h10
      have hl2 : (misL f (i + 1)).length = (misL f i).length + 1 := by rw [misL_yes hp]; simp
      rw [← hl2] at h10 ⊢
      exact ⟨⟨i + 1, g2, cp2, by rw [hwr], by omega, h10⟩, hdec⟩
    · rw [hwr, misL_no hp]
    · rw [misL_no hp]; exact h9
  · have : i = s.c.toNat := by omega
    subst this
    exact ⟨g, cp, rfl, T.leave (Γ := [_]) h6⟩
end Go.Proofs.YtedbbdeeofdepaaGreat
end
section
/-! The reference's row: Read, Filled, Sector, Write, Flush. -/
namespace Go.Proofs.YtedbbdeeofdepaaGreat
open Go.Sh Go.RowKit
set_option linter.unusedVariables false
set_option linter.unusedSimpArgs false
set_option maxRecDepth 20000
set_option maxHeartbeats 1000000
theorem rread16_spec {s : RwS} {ds : List Od} {bu : List Int} {w : World} (h : RrW s ds bu w) (hl : ds.length ≤ 1000000) (hF : FewL ds 1000000) (row off : Int) :
    Calls Tryz.prog 25 #[.agg (rwC s ds.length bu.length), .int .i64 row, .int .i64 off] w fun e w' => ∃ v, e = .returned v ∧ RdP (readR s ds bu row off) w v w' := by
  refine revetmentref16_Read_calls ?_
  unfold revetmentref16_Read
  refine Alloc.t (T.nil w) fun k3 w1 h1 => ?_
  have h1 : T [] w w1 [blk k3 (rwC s ds.length bu.length) 33] := h1
  have c1 : ∀ {w' : World} {Γ : List A}, T [] w w' Γ → blk k3 (rwC s ds.length bu.length) 33 ∈ Γ → ∀ i v, (rwC s ds.length bu.length)[i]? = some v → w'.cell? ⟨k3, i, none⟩ = some v := fun h' hm i v hv => h'.ld hm hv
  refine ⟨_, _, _, _, _, _, _, _, _, ⟨c1 h1 (by repeat (first | exact List.Mem.head _ | refine List.Mem.tail _ ?_)) 0 _ rfl, c1 h1 (by repeat (first | exact List.Mem.head _ | refine List.Mem.tail _ ?_)) 1 _ rfl, c1 h1 (by repeat (first | exact List.Mem.head _ | refine List.Mem.tail _ ?_)) 2 _ rfl, c1 h1 (by repeat (first | exact List.Mem.head _ | refine List.Mem.tail _ ?_)) 3 _ rfl, c1 h1 (by repeat (first | exact List.Mem.head _ | refine List.Mem.tail _ ?_)) 4 _ rfl⟩, ?_⟩
  refine (rcheck16_spec (h.ext h1.chg.ext) hl row off).mono fun e w2 ⟨he2, hx2⟩ => ⟨_, he2, ?_⟩
  have h2 := h1.quiet hx2
  unfold readR
  refine ⟨bne_t fun hn => ?_, bne_f fun hz => ?_⟩
  · rw [if_pos hn]
    exact ⟨rfl, h2.chg.ext⟩
  rw [if_neg (by omega)]
  obtain ⟨hM, hr, ho⟩ := atE_zero hz
  have hc := hM.1.1
  have hc2 := hM.1.2.1
  have hdl := hM.2.1
  have hbl := hM.2.2.1
  obtain ⟨c, hcc⟩ : ∃ c : Nat, s.c = (c : Int) := ⟨s.c.toNat, by omega⟩
  rw [hcc, Int.toNat_natCast]
  generalize hf : (fun i : Nat => secR s ds bu row off (i : Int)) = f
  have hfi : ∀ i : Nat, secR s ds bu row off (i : Int) = f i := fun i => by rw [← hf]
  refine Alloc.t h2 fun k23 w3 h3 => ?_
  have h3 : T [] w w3 [rowP 9 1 (some k23) 0 0 (txts (colX f 0)), blk k3 (rwC s ds.length bu.length) 33] := blk_row h3 rfl rfl (by decide)
  refine Alloc.t h3 fun k24 w4 h4 => ?_
  have h4 : T [] w w4 [rowP 3 1 (some k24) (colL f 0).length 0 (intsI (colL f 0)), rowP 9 1 (some k23) 0 0 (txts (colX f 0)), blk k3 (rwC s ds.length bu.length) 33] := blk_row (n := 0) (xs := []) h4 rfl rfl (by decide)
  refine ⟨fun vs w' => ∃ (i : Nat) (g : Option Nat) (cp : Nat) (g' : Option Nat) (cp' : Nat), vs = [.slice (ptr g) i cp, .slice (ptr g') (colL f i).length cp', .int .i64 (i : Int)] ∧ i ≤ c ∧ (∀ j, j < i → (f j).2 ≠ 42) ∧ T [] w w' [rowP 3 1 g' (colL f i).length cp' (intsI (colL f i)), rowP 9 1 g i cp (txts (colX f i)), blk k3 (rwC s ds.length bu.length) 33], fun vs _ => match vs with | [_, _, .int _ i] => ((c : Int) - i).toNat | _ => 0, ⟨0, some k23, 0, some k24, 0, rfl, by omega, (fun j hj => by omega), h4⟩, ?_⟩
  rintro vs w5 ⟨i, g, cp, g', cp', rfl, hi, hno, h5⟩
  refine ⟨_, _, _, _, _, _, _, rfl, s.c, c1 h5 (by repeat (first | exact List.Mem.head _ | refine List.Mem.tail _ ?_)) 0 _ rfl, ?_⟩
  rw [hcc]
  refine ⟨dec_t fun hlt => ?_, dec_f fun hge => ?_⟩
  · have hlt : i < c := by omega
    obtain ⟨j0, j1⟩ := colR_nat hM.1 hr (role := (i : Int)) (by omega)
    refine ⟨s.c, _, _, _, _, _, _, _, _, ⟨c1 h5 (by repeat (first | exact List.Mem.head _ | refine List.Mem.tail _ ?_)) 0 _ rfl, c1 h5 (by repeat (first | exact List.Mem.head _ | refine List.Mem.tail _ ?_)) 1 _ rfl, c1 h5 (by repeat (first | exact List.Mem.head _ | refine List.Mem.tail _ ?_)) 2 _ rfl, c1 h5 (by repeat (first | exact List.Mem.head _ | refine List.Mem.tail _ ?_)) 3 _ rfl, c1 h5 (by repeat (first | exact List.Mem.head _ | refine List.Mem.tail _ ?_)) 4 _ rfl⟩, ?_⟩
    refine (rcolumn16_spec (s := s) (n := ds.length) (m := bu.length) hM.1 hr (role := (i : Int)) (by omega) w5).mono fun e w6 ⟨he6, hx6⟩ => ⟨_, he6, ?_⟩
    have h6 := h5.quiet hx6
    have hmiss := missO_built s ds bu row (i : Int)
    rw [← j0]
    refine Join.intro fun J hJ => ?_
    have hJ : ∀ w', T [] w w' [rowP 3 1 g' (colL f i).length cp' (intsI (colL f i)), rowP 9 1 g i cp (txts (colX f i)), blk k3 (rwC s ds.length bu.length) 33] → J [.string (f i).1, .int .i64 (f i).2] w' := by
      intro w' h'
      refine hJ _ _ ⟨_, _, rfl, beq_t fun h42 => ?_, beq_f fun hn42 => ?_⟩
      · rw [if_pos (List.any_eq_true.2 ⟨i, List.mem_range.2 hlt, by rw [hfi]; simpa using h42⟩)]
        exact ⟨rfl, h'.chg.ext⟩
      refine Join.intro fun J1 hJ1 => ?_
      have hmes : ((c : Int) - IntKind.i64.wrap ((i : Int) + 1)).toNat < ((c : Int) - (i : Int)).toNat := by rw [wrap64 _ (by omega) (by omega)]; omega
      have hnx : IntKind.i64.wrap ((i : Int) + 1) = ((i + 1 : Nat) : Int) := by rw [wrap64 _ (by omega) (by omega)]; rfl
      have hno' : ∀ j, j < i + 1 → (f j).2 ≠ 42 := fun j hj => by
        by_cases e : j = i
        · subst e; exact hn42
        · exact hno j (by omega)
      have hJ1 : ∀ (g2 : Option Nat) (cp2 : Nat) w', T [] w w' [rowP 3 1 g2 (colL f (i + 1)).length cp2 (intsI (colL f (i + 1))), rowP 9 1 g i cp (txts (colX f i)), blk k3 (rwC s ds.length bu.length) 33] → J1 [.slice (ptr g2) (colL f (i + 1)).length cp2] w' := by
        intro g2 cp2 w1 h1
        refine hJ1 _ _ ⟨_, _, _, rfl, ?_⟩
        refine push1_t (i := Tryz.t9) (z := .string (ByteArray.mk #[])) (g := g) (by kernel_rfl) (by kernel_rfl) (by kernel_rfl) (by kernel_rfl) (by kernel_rfl) (by kernel_rfl) h1 (.tail .head) rfl (by omega) fun g3 cp3 w5 h5 => ?_
        rw [colX_succ] at h5
        exact ⟨⟨i + 1, g3, cp3, g2, cp2, by rw [hnx], by omega, hno', h5.swap (.swap _ _ _)⟩, hmes⟩
      have hle := colL_le f i
      refine ⟨bne_t fun h1 => ?_, bne_f fun h0 => ?_⟩
      · refine push1_t (i := Tryz.t3) (z := .int .i64 0) (g := g') (by kernel_rfl) (by kernel_rfl) (by kernel_rfl) (by kernel_rfl) (by kernel_rfl) (by kernel_rfl) h' .head rfl (by omega) fun g2 cp2 w5 h5 => ?_
        rw [intsI_snoc, ← colL_no h1] at h5
        have hl2 : (colL f (i + 1)).length = (colL f i).length + 1 := by rw [colL_no h1]; simp
        rw [← hl2] at h5 ⊢
        exact hJ1 g2 cp2 w5 h5
      · have := hJ1 g' cp' w' (by rw [colL_ok h0]; exact h')
        rw [colL_ok h0] at this
        exact this
    refine ⟨s.c, _, _, _, _, _, _, _, _, ⟨c1 h6 (by repeat (first | exact List.Mem.head _ | refine List.Mem.tail _ ?_)) 0 _ rfl, c1 h6 (by repeat (first | exact List.Mem.head _ | refine List.Mem.tail _ ?_)) 1 _ rfl, c1 h6 (by repeat (first | exact List.Mem.head _ | refine List.Mem.tail _ ?_)) 2 _ rfl, c1 h6 (by repeat (first | exact List.Mem.head _ | refine List.Mem.tail _ ?_)) 3 _ rfl, c1 h6 (by repeat (first | exact List.Mem.head _ | refine List.Mem.tail _ ?_)) 4 _ rfl⟩, ?_⟩
    refine (rmiss16_spec (h.ext h6.chg.ext) hl (col := (colR s row i).toNat) (by omega) (by omega) row).mono fun e w7 ⟨he7, hx7⟩ => ⟨_, he7, ?_⟩
    have h7 := h6.quiet hx7
    rw [hmiss]
    have hsec : f i = match builtO s ds bu row (i : Int) with
      | some x => x.2.read (sectorG s.c s.k s.r row off)
      | none => (noB, 41) := by rw [← hfi]; rfl
    have hget : ∀ p a, builtO s ds bu row (i : Int) = some (p, a) → ds[(colR s row i).toNat]? = some (some (p, a)) := fun p a hb => builtO_get hb
    generalize builtO s ds bu row (i : Int) = y at hsec hget
    cases y with
    | none =>
      refine no rfl ?_
      have := hJ w7 h7
      rw [hsec] at this
      exact this
    | some x =>
      obtain ⟨p, a⟩ := x
      have hk := hget p a rfl
      obtain ⟨a0, ha0, _⟩ := (h.ext h7.drew.chg.ext).pd.get (blks_get hk)
      refine yes rfl ⟨fun w' => T [] w w' [rowP 3 1 g' (colL f i).length cp' (intsI (colL f i)), rowP 9 1 g i cp (txts (colX f i)), blk k3 (rwC s ds.length bu.length) 33], h7.drew, _, _, _, fun w' h' => c1 h' (by repeat (first | exact List.Mem.head _ | refine List.Mem.tail _ ?_)) 3 _ rfl, a0, ha0, by omega, by omega, some ⟨p, 0, none⟩, fun w' h' => ?_, s.c, _, _, fun w' h' => ⟨c1 h' (by repeat (first | exact List.Mem.head _ | refine List.Mem.tail _ ?_)) 0 _ rfl, c1 h' (by repeat (first | exact List.Mem.head _ | refine List.Mem.tail _ ?_)) 1 _ rfl, c1 h' (by repeat (first | exact List.Mem.head _ | refine List.Mem.tail _ ?_)) 2 _ rfl⟩, ?_⟩
      · obtain ⟨a1, ha1, hcl⟩ := (h.ext h'.chg.ext).pd.get (blks_get hk)
        rw [ha0] at ha1; cases ha1
        rw [Int.toNat_natCast]; exact hcl
      refine (rsector_spec s.c s.k s.r row off _).mono fun e w8 ⟨he8, hx8⟩ => ⟨_, he8, h7.drew.quiet hx8, ?_⟩
      have h8 := h7.drew.quiet hx8
      obtain ⟨F, w0', X, hd⟩ := (h.ext h8.chg.ext).drive hk
      refine (rread_r hd (hF p a (List.mem_of_getElem? hk)) (sectorG s.c s.k s.r row off)).mono fun e w9 ⟨he9, hx9⟩ => ⟨_, _, he9, h8.quiet hx9, ?_⟩
      have := hJ w9 (h8.quiet hx9)
      rw [hsec] at this
      exact this
  · obtain rfl : i = c := by omega
    rw [if_neg (fun ha => by
      obtain ⟨j, hj, hb⟩ := List.any_eq_true.1 ha
      rw [hfi] at hb
      exact hno j (List.mem_range.1 hj) (by simpa using hb))]
    refine ⟨g, cp, g', cp', by rw [colX_len], ?_⟩
    rw [colX_len]
    exact T.leave (Γ := [_, _]) (Δ := [_]) (h5.swap (.swap _ _ _))
open Classical in
theorem rfilled16_spec {s : RwS} {ds : List Od} {bu : List Int} {w : World} (h : RrW s ds bu w) (hl : ds.length ≤ 1000000) (hF : FewL ds 1000000) (row off : Int) (hSh : ∀ X l, readR s ds bu row off = .ok (X, l) → Short X) :
    Calls Tryz.prog 26 #[.agg (rwC s ds.length bu.length), .int .i64 row, .int .i64 off] w fun e w' => ∃ v, e = .returned v ∧ RdP (filR s ds bu row off) w v w' := by
  refine revetmentref16_Filled_calls ?_
  unfold revetmentref16_Filled
  refine Alloc.t (T.nil w) fun k3 w1 h1 => ?_
  have h1 : T [] w w1 [blk k3 (rwC s ds.length bu.length) 33] := h1
  have c1 : ∀ i v, (rwC s ds.length bu.length)[i]? = some v → w1.cell? ⟨k3, i, none⟩ = some v := fun i v hv => h1.ld (by repeat (first | exact List.Mem.head _ | refine List.Mem.tail _ ?_)) hv
  refine ⟨_, _, _, _, _, _, _, _, _, ⟨c1 0 _ rfl, c1 1 _ rfl, c1 2 _ rfl, c1 3 _ rfl, c1 4 _ rfl⟩, ?_⟩
  refine (rread16_spec (h.ext h1.chg.ext) hl hF row off).mono fun e w2 ⟨v, he, hv⟩ => ?_
  unfold filR
  cases hR : readR s ds bu row off with
  | error n =>
    rw [hR] at hv
    obtain ⟨rfl, hx⟩ := hv
    exact ⟨_, _, _, _, _, _, _, he, yes (by simpa using readR_err hR) ⟨rfl, h1.chg.ext.trans hx⟩⟩
  | ok x =>
    obtain ⟨X, l⟩ := x
    rw [hR] at hv
    obtain ⟨g, c, g', c', rfl, hT⟩ := hv
    refine ⟨_, _, _, _, _, _, _, he, no rfl ?_⟩
    obtain ⟨hz, h42, hX, hL⟩ := readR_ok hR
    obtain ⟨hM, hr, ho⟩ := atE_zero hz
    have hc := hM.1.1
    have hc2 := hM.1.2.1
    have hXl : X.length = s.c.toNat := by rw [hX, colX_len]
    have hll : l.length ≤ s.c.toNat := by rw [hL]; exact colL_le _ _
    have hS : Short X := hSh X l hR
    have s1 := (T.strs hT (g := g) (L := X) (by repeat (first | exact List.Mem.head _ | refine List.Mem.tail _ ?_))).1
    have s2 := (T.ints hT (g := g') (l := l) (by repeat (first | exact List.Mem.head _ | refine List.Mem.tail _ ?_))).1
    have hcap : l.length ≤ c' := (T.says hT (x := rowP 3 1 g' l.length c' (intsI l)) (by repeat (first | exact List.Mem.head _ | refine List.Mem.tail _ ?_))).2.1
    refine (fillR_spec (by omega) (by omega) hS hcap s1 s2 (c := c) (d := c')).mono fun e2 w3 hh => ?_
    rcases hh with ⟨hO, h2, b, cap, he2, hT2⟩ | ⟨n, hn, he2, hx, h1', h2'⟩
    · refine ⟨_, _, _, _, he2, no rfl ?_⟩
      show RdP (if OkM X l then (if l.length ≤ 2 then .ok (fillF X l, l) else .error 60) else .error 1) w _ w3
      rw [if_pos hO, if_pos h2]
      have hfl : (fillF X l).length = X.length := fillF_len _ _
      have hT1 : T [] w w2 ([rowP 9 1 g X.length c (txts X), rowP 3 1 g' l.length c' (intsI l)] ++ [blk k3 (rwC s ds.length bu.length) 33]) := T.call (Γ := []) h1 hT
      refine ⟨some b, cap, g', c', by rw [hfl]; rfl, ?_⟩
      rw [hfl]
      exact T.leave (Γ := [_, _]) (Δ := [blk k3 (rwC s ds.length bu.length) 33]) (T.call (Γ := []) (Γ' := [rowP 9 1 (some b) X.length cap (txts (fillF X l))]) (T.drop hT1) hT2)
    · refine ⟨_, _, _, _, he2, yes (by simpa using hn) ?_⟩
      have hT1 : T [] w w2 ([rowP 9 1 g X.length c (txts X), rowP 3 1 g' l.length c' (intsI l)] ++ [blk k3 (rwC s ds.length bu.length) 33]) := T.call (Γ := []) h1 hT
      show RdP (if OkM X l then (if l.length ≤ 2 then .ok (fillF X l, l) else .error 60) else .error 1) w _ w3
      by_cases hO : OkM X l
      · obtain ⟨h2, rfl⟩ := h1' hO
        rw [if_pos hO, if_neg (by omega)]
        exact ⟨rfl, hT1.chg.ext.trans hx⟩
      · obtain rfl := h2' hO
        rw [if_neg hO]
        exact ⟨rfl, hT1.chg.ext.trans hx⟩
theorem rset16_spec {s : RwS} {ds : List Od} {bu : List Int} {w : World} (h : RrW s ds bu w) (hl : ds.length ≤ 1000000) (hF : FewL ds 1000000) (row off i : Int) (hSh : ∀ X l, readR s ds bu row off = .ok (X, l) → Short X) :
    Ret Tryz.prog 27 #[.agg (rwC s ds.length bu.length), .int .i64 row, .int .i64 off, .int .i64 i] w (.tuple #[.string (sectR s ds bu row off i).1, .int .i64 (sectR s ds bu row off i).2]) := by
  refine ret_of (revetmentref16_Sector_calls ?_)
  unfold revetmentref16_Sector
  refine Alloc.t (T.nil w) fun k4 w1 h1 => ?_
  have h1 : T [] w w1 [blk k4 (rwC s ds.length bu.length) 33] := h1
  have c1 : ∀ {w' : World}, T [] w w' [blk k4 (rwC s ds.length bu.length) 33] → ∀ i v, (rwC s ds.length bu.length)[i]? = some v → w'.cell? ⟨k4, i, none⟩ = some v := fun h' i v hv => h'.ld (by repeat (first | exact List.Mem.head _ | refine List.Mem.tail _ ?_)) hv
  refine ⟨_, _, _, _, _, _, _, _, _, ⟨c1 h1 0 _ rfl, c1 h1 1 _ rfl, c1 h1 2 _ rfl, c1 h1 3 _ rfl, c1 h1 4 _ rfl⟩, ?_⟩
  refine (rcheck16_spec (h.ext h1.chg.ext) hl row off).mono fun e w2 ⟨he2, hx2⟩ => ⟨_, he2, ?_⟩
  have h2 := h1.quiet hx2
  unfold sectR
  refine ⟨bne_t fun hn => ?_, bne_f fun hz => ?_⟩
  · rw [if_pos hn]
    exact ⟨rfl, h2.chg.ext⟩
  rw [if_neg (by omega)]
  obtain ⟨hM, hr, ho⟩ := atE_zero hz
  have hc := hM.1.1
  have hc2 := hM.1.2.1
  have hdl := hM.2.1
  have hbl := hM.2.2.1
  refine ⟨dec_t fun hi => ⟨by rw [if_pos (by omega)], h2.chg.ext⟩, dec_f fun hi => ⟨_, c1 h2 0 _ rfl, ?_⟩⟩
  rw [wrap64 (s.c - 2) (by omega) (by omega)]
  refine ⟨dec_t fun hi2 => ⟨by rw [if_pos (by omega)], h2.chg.ext⟩, dec_f fun hi2 => ?_⟩
  rw [if_neg (by omega)]
  refine ⟨_, _, _, ⟨c1 h2 0 _ rfl, c1 h2 1 _ rfl, c1 h2 2 _ rfl⟩, ?_⟩
  refine (rcolumn_spec s.c s.k s.r row i w2).mono fun e w3 ⟨he3, hx3⟩ => ⟨_, he3, ?_⟩
  have h3 := h2.quiet hx3
  have hcol : colG s.c s.k s.r row i = colR s row i := by unfold colR; rw [if_pos (by omega)]
  rw [hcol]
  obtain ⟨j0, j1⟩ := colR_nat hM.1 hr (role := i) (by omega)
  rw [← j0]
  have hmiss := missO_built s ds bu row i
  refine Join.intro fun J hJ => ?_
  have hJ : (secR s ds bu row off i).2 = 41 → ∀ w', T [] w w' [blk k4 (rwC s ds.length bu.length) 33] → J [] w' := by
    intro h41 w' h'
    refine hJ _ _ ⟨rfl, ?_⟩
    refine ⟨_, _, _, _, _, _, _, _, _, ⟨c1 h' 0 _ rfl, c1 h' 1 _ rfl, c1 h' 2 _ rfl, c1 h' 3 _ rfl, c1 h' 4 _ rfl⟩, ?_⟩
    refine (rfilled16_spec (h.ext h'.chg.ext) hl hF row off hSh).mono fun e w6 ⟨v, he, hv⟩ => ?_
    rw [if_neg (by omega)]
    cases hR : filR s ds bu row off with
    | error n =>
      rw [hR] at hv
      obtain ⟨rfl, hx⟩ := hv
      exact ⟨_, _, _, _, _, _, _, he, yes (by simpa using filR_err hR) ⟨rfl, h'.chg.ext.trans hx⟩⟩
    | ok x =>
      rw [hR] at hv
      obtain ⟨g, c, g', c', rfl, hT⟩ := hv
      have hlen := filR_len hR
      refine ⟨_, _, _, _, _, _, _, he, no rfl ?_⟩
      have s1 := (T.strs hT (g := g) (L := x.1) (by repeat (first | exact List.Mem.head _ | refine List.Mem.tail _ ?_))).1
      obtain ⟨a, ha, hcell⟩ := s1.get (n := i.toNat) (by omega)
      exact ⟨a, ha, by omega, by omega, _, hcell, rfl, h'.chg.ext.trans hT.chg.ext⟩
  refine ⟨_, _, _, _, _, _, _, _, _, ⟨c1 h3 0 _ rfl, c1 h3 1 _ rfl, c1 h3 2 _ rfl, c1 h3 3 _ rfl, c1 h3 4 _ rfl⟩, ?_⟩
  refine (rmiss16_spec (h.ext h3.chg.ext) hl (col := (colR s row i).toNat) (by omega) (by omega) row).mono fun e w4 ⟨he4, hx4⟩ => ⟨_, he4, ?_⟩
  have h4 := h3.quiet hx4
  rw [hmiss]
  have hsec : secR s ds bu row off i = match builtO s ds bu row i with
    | some x => x.2.read (sectorG s.c s.k s.r row off)
    | none => (noB, 41) := rfl
  have hget : ∀ p a, builtO s ds bu row i = some (p, a) → ds[(colR s row i).toNat]? = some (some (p, a)) := fun p a hb => builtO_get hb
  generalize builtO s ds bu row i = y at hsec hget
  cases y with
  | none => exact no rfl (hJ (by rw [hsec]) w4 h4)
  | some x =>
    obtain ⟨p, a⟩ := x
    have hk := hget p a rfl
    obtain ⟨a0, ha0, _⟩ := (h.ext h4.drew.chg.ext).pd.get (blks_get hk)
    refine yes rfl ⟨fun w' => T [] w w' [blk k4 (rwC s ds.length bu.length) 33], h4.drew, _, _, _, fun w' h' => c1 h' 3 _ rfl, a0, ha0, by omega, by omega, some ⟨p, 0, none⟩, fun w' h' => ?_, s.c, _, _, fun w' h' => ⟨c1 h' 0 _ rfl, c1 h' 1 _ rfl, c1 h' 2 _ rfl⟩, ?_⟩
    · obtain ⟨a1, ha1, hcl⟩ := (h.ext h'.chg.ext).pd.get (blks_get hk)
      rw [ha0] at ha1; cases ha1
      rw [Int.toNat_natCast]; exact hcl
    refine (rsector_spec s.c s.k s.r row off _).mono fun e w8 ⟨he8, hx8⟩ => ⟨_, he8, h4.drew.quiet hx8, ?_⟩
    have h8 := h4.drew.quiet hx8
    obtain ⟨F, w0', X, hd⟩ := (h.ext h8.chg.ext).drive hk
    refine (rread_r hd (hF p a (List.mem_of_getElem? hk)) (sectorG s.c s.k s.r row off)).mono fun e w9 ⟨he9, hx9⟩ => ⟨_, _, he9, h8.quiet hx9, bne_t fun hn => ?_, bne_f fun h41 => ?_⟩
    · have hn' : (secR s ds bu row off i).2 ≠ 41 := by rw [hsec]; exact hn
      rw [if_pos hn', hsec]
      exact ⟨rfl, (h8.quiet hx9).chg.ext⟩
    · exact hJ (by rw [hsec]; exact h41) w9 (h8.quiet hx9)
end Go.Proofs.YtedbbdeeofdepaaGreat
end
section
/-! The reference's row: Write, Flush; lists of numbers that are the same. -/
namespace Go.Proofs.YtedbbdeeofdepaaGreat
open Go.Sh Go.RowKit
set_option linter.unusedVariables false
set_option linter.unusedSimpArgs false
set_option maxRecDepth 20000
set_option maxHeartbeats 1000000
theorem rwrite16_spec {s : RwS} {ds : List Od} {bu : List Int} {F : List Nat} {w0 w : World} {X : List A} (H : Ow (rsK ds) F w0 w X) (hp : ptrsAt w s.pd (blks ds)) (hb : intsL w s.pb bu) (hl : ds.length ≤ 1000000) (hF : FewL ds 999999) (row off role : Int) (x : ByteArray) :
    Calls Tryz.prog 56 #[.agg (rwC s ds.length bu.length), .int .i64 row, .int .i64 off, .int .i64 role, .string x] w fun e w' => e = .returned (.int .i64 (writeE s ds bu row off role x)) ∧ Ow (rsK (writeD s ds bu row off role x)) F w0 w' X := by
  refine (revetmentref16_Write_calls (R := fun v w' => v = .int .i64 (writeE s ds bu row off role x) ∧ Ow (rsK (writeD s ds bu row off role x)) F w0 w' X) ?_).mono fun e w' ⟨v, he, hv, h⟩ => ⟨by rw [he, hv], h⟩
  unfold revetmentref16_Write
  have h : RrW s ds bu w := ⟨⟨F, w0, X, H⟩, hp, hb⟩
  refine Alloc.t (T.nil w) fun k5 w1 h1 => ?_
  have h1 : T [] w w1 [blk k5 (rwC s ds.length bu.length) 33] := h1
  have c1 : ∀ {w' : World}, T [] w w' [blk k5 (rwC s ds.length bu.length) 33] → ∀ i v, (rwC s ds.length bu.length)[i]? = some v → w'.cell? ⟨k5, i, none⟩ = some v := fun h' i v hv => h'.ld (by repeat (first | exact List.Mem.head _ | refine List.Mem.tail _ ?_)) hv
  refine ⟨_, _, _, _, _, _, _, _, _, ⟨c1 h1 0 _ rfl, c1 h1 1 _ rfl, c1 h1 2 _ rfl, c1 h1 3 _ rfl, c1 h1 4 _ rfl⟩, ?_⟩
  refine (rcheck16_spec (h.ext h1.chg.ext) hl row off).mono fun e w2 ⟨he2, hx2⟩ => ⟨_, he2, ?_⟩
  have h4 := h1.quiet hx2
  unfold writeE writeD
  refine ⟨bne_t fun hn => ?_, bne_f fun hz => ?_⟩
  · rw [if_pos hn, if_pos hn]
    exact ⟨rfl, H.quiet h4.chg.ext⟩
  have hnz : ¬ (atE s ds bu row off ≠ 0) := by omega
  rw [if_neg hnz, if_neg hnz]
  obtain ⟨hM, hr, ho⟩ := atE_zero hz
  have hc := hM.1.1
  have hc2 := hM.1.2.1
  refine ⟨dec_t fun hi => ?_, dec_f fun hi => ⟨_, c1 h4 0 _ rfl, ?_⟩⟩
  · rw [if_pos (.inl hi), if_pos (.inl hi)]
    exact ⟨rfl, H.quiet h4.chg.ext⟩
  refine ⟨dec_t fun hi2 => ?_, dec_f fun hi2 => ?_⟩
  · rw [if_pos (.inr hi2), if_pos (.inr hi2)]
    exact ⟨rfl, H.quiet h4.chg.ext⟩
  have hnr : ¬ (role < 0 ∨ role ≥ s.c) := by omega
  rw [if_neg hnr, if_neg hnr]
  obtain ⟨j0, j1⟩ := colR_nat hM.1 hr (role := role) (by omega)
  have hdl := hM.2.1
  obtain ⟨ad, had⟩ : ∃ ad, s.pd = some ad := hp.1 fun e => by
    have h1 := congrArg List.length e
    rw [blks_len] at h1
    have h2 : ds.length = 0 := h1
    omega
  refine ⟨fun w' => T [] w w' [blk k5 (rwC s ds.length bu.length) 33], h4.drew, _, _, _, fun w' h' => c1 h' 3 _ rfl, _, _, _, _, _, _, _, _, _, fun w' h' => ⟨c1 h' 0 _ rfl, c1 h' 1 _ rfl, c1 h' 2 _ rfl, c1 h' 3 _ rfl, c1 h' 4 _ rfl⟩, ?_⟩
  refine (rcolumn16_spec (s := s) (n := ds.length) (m := bu.length) hM.1 hr (role := role) (by omega) _).mono fun e w6 ⟨he6, hx6⟩ => ⟨_, he6, h4.drew.quiet hx6, ?_⟩
  have h6 := h4.drew.quiet hx6
  rw [← j0]
  generalize (colR s row role).toNat = col at j1
  rw [Int.toNat_natCast]
  have hy : ds[col]? = some ds[col] := List.getElem?_eq_getElem (by omega)
  obtain ⟨a1, ha1, hcl⟩ := (h.ext h6.chg.ext).pd.get (blks_get hy)
  refine ⟨a1, ha1, by omega, by omega, _, fun x0 hx0 => (by rw [hx0]; exact hcl), ?_⟩
  have hth : thereO ds col = match ds[col] with
      | some x => if x.2.dead then none else some x
      | none => none := by unfold thereO; rw [List.getD_eq_getElem?_getD, hy]; rfl
  rw [hth]
  generalize ds[col] = y at hy
  cases y with
  | none => exact yes rfl ⟨rfl, H.quiet h6.chg.ext⟩
  | some z =>
    obtain ⟨p, a⟩ := z
    obtain ⟨F9, w09, X9, hd⟩ := (h.ext h6.chg.ext).drive hy
    refine no rfl ⟨⟨p, 0, none⟩, rfl, a.dead, hd.dead, fun hdd => ?_, fun hdd => ?_⟩
    · show (fun v w' => v = Value.int .i64 (match (if a.dead = true then none else some (p, a)) with | none => 40 | some y => y.2.put (sectorG s.c s.k s.r row off) x) ∧ Ow (rsK (match (if a.dead = true then none else some (p, a)) with | none => ds | some y => ds.set col (some (y.1, y.2.write (sectorG s.c s.k s.r row off) x)))) F w0 w' X) (.int .i64 40) w6
      rw [hdd]
      exact ⟨rfl, H.quiet h6.chg.ext⟩
    · refine ⟨_, _, _, ⟨c1 h6 0 _ rfl, c1 h6 1 _ rfl, c1 h6 2 _ rfl⟩, ?_⟩
      refine (rsector_spec s.c s.k s.r row off w6).mono fun e w8 ⟨he8, hx8⟩ => ⟨_, he8, ?_⟩
      refine (Ow.onRef (H.quiet (h6.chg.ext.trans hx8)) hy fun Z hZ => rwrite_r hZ (hF p a (List.mem_of_getElem? hy)) (sectorG s.c s.k s.r row off) x).mono fun e w9 ⟨he9, h9⟩ => ⟨_, he9, ?_⟩
      show (fun v w' => v = Value.int .i64 (match (if a.dead = true then none else some (p, a)) with | none => 40 | some y => y.2.put (sectorG s.c s.k s.r row off) x) ∧ Ow (rsK (match (if a.dead = true then none else some (p, a)) with | none => ds | some y => ds.set col (some (y.1, y.2.write (sectorG s.c s.k s.r row off) x)))) F w0 w' X) _ w9
      rw [hdd]
      exact ⟨rfl, h9⟩
theorem rflush16_spec {s : RwS} {ds : List Od} {bu : List Int} {F : List Nat} {w0 w : World} {X : List A} (H : Ow (rsK ds) F w0 w X) (hX : ∀ w', T F w0 w' X → ptrsAt w' s.pd (blks ds) ∧ intsL w' s.pb bu) (hl : ds.length ≤ 1000000) (hF : FewL ds 1000000) :
    Calls Tryz.prog 60 #[.agg (rwC s ds.length bu.length)] w fun e w' => e = .returned (.int .i64 (if RMay s ds bu then (if ds.any offO then 42 else 0) else 1)) ∧ Ow (rsK (if RMay s ds bu then ds.map flushO else ds)) F w0 w' X := by
  refine (revetmentref16_Flush_calls (R := fun v w' => v = .int .i64 (if RMay s ds bu then (if ds.any offO then 42 else 0) else 1) ∧ Ow (rsK (if RMay s ds bu then ds.map flushO else ds)) F w0 w' X) ?_).mono fun e w' ⟨v, he, hv, h⟩ => ⟨by rw [he, hv], h⟩
  unfold revetmentref16_Flush
  refine Ow.alloc H fun k1 w1 H1 => ?_
  have H1 : Ow (rsK ds) F w0 w1 (blk k1 (rwC s ds.length bu.length) 33 :: X) := H1
  have c1 : ∀ {w' : World} {h : Kd}, Ow h F w0 w' (blk k1 (rwC s ds.length bu.length) 33 :: X) → ∀ i v, (rwC s ds.length bu.length)[i]? = some v → w'.cell? ⟨k1, i, none⟩ = some v := fun h' i v hv => h'.ld List.mem_cons_self hv
  refine ⟨_, _, _, _, _, _, _, _, _, ⟨c1 H1 0 _ rfl, c1 H1 1 _ rfl, c1 H1 2 _ rfl, c1 H1 3 _ rfl, c1 H1 4 _ rfl⟩, ?_⟩
  have hX1 := hX _ (T.drop H1.under)
  refine (rmay16_spec ⟨⟨_, _, _, H1⟩, hX1.1, hX1.2⟩ hl).mono fun e w2 ⟨he2, hx2⟩ => ⟨_, he2, ?_⟩
  have H2 := H1.quiet hx2
  by_cases hM : RMay s ds bu
  · rw [if_pos hM, if_pos hM]
    refine no (by rw [decide_eq_true hM]; rfl) ?_
    refine ⟨fun vs w' => ∃ i : Nat, vs = [.int .i64 (if (ds.take i).any offO then 42 else 0), .int .i64 (i : Int)] ∧ i ≤ ds.length ∧ Ow (rsK ((ds.take i).map flushO ++ ds.drop i)) F w0 w' (blk k1 (rwC s ds.length bu.length) 33 :: X), fun vs _ => match vs with | [_, .int _ i] => (ds.length - i).toNat | _ => 0, ⟨0, rfl, by omega, by simpa using H2⟩, ?_⟩
    rintro vs w3 ⟨i, rfl, hi, H3⟩
    refine ⟨_, _, rfl, _, _, _, c1 H3 3 _ rfl, dec_t fun hlt => ?_, dec_f fun hge => ?_⟩
    · have hlt : i < ds.length := by omega
      have hX3 := hX _ (T.drop H3.under)
      have hbl : blks ((ds.take i).map flushO ++ ds.drop i) = blks ds := by
        unfold blks
        have e1 : ∀ y : Od, odB (flushO y) = odB y := fun y => by cases y <;> rfl
        rw [List.map_append, List.map_map, show odB ∘ flushO = odB from funext e1, ← List.map_append, List.take_append_drop]
      have htl : ((ds.take i).map flushO).length = i := by rw [List.length_map, List.length_take]; omega
      have hgi : ((ds.take i).map flushO ++ ds.drop i)[i]? = some ds[i] := by
        rw [List.getElem?_append_right (by rw [htl]; exact Nat.le_refl _), htl, Nat.sub_self, List.getElem?_drop, Nat.add_zero, List.getElem?_eq_getElem hlt]
      have hset : ∀ z, ((ds.take i).map flushO ++ ds.drop i).set i z = (ds.take i).map flushO ++ z :: ds.drop (i + 1) := fun z => by
        rw [List.set_append_right _ _ (by rw [htl]; exact Nat.le_refl _), htl, Nat.sub_self, List.drop_eq_getElem_cons hlt]; rfl
      have hnext : ∀ z, z = flushO ds[i] → (ds.take i).map flushO ++ z :: ds.drop (i + 1) = (ds.take (i + 1)).map flushO ++ ds.drop (i + 1) := fun z hz => by
        rw [hz, List.take_add_one, List.getElem?_eq_getElem hlt, List.map_append]; simp only [Option.toList, List.map_cons, List.map_nil, List.append_assoc, List.singleton_append]
      have hany : ∀ b, b = offO ds[i] → ((ds.take i).any offO || b) = (ds.take (i + 1)).any offO := fun b hb => by
        rw [hb, List.take_add_one, List.getElem?_eq_getElem hlt, List.any_append]; simp
      have hwr : IntKind.i64.wrap ((i : Int) + 1) = ((i + 1 : Nat) : Int) := by rw [wrap64 _ (by omega) (by omega)]; rfl
      have hdec : ((ds.length : Int) - IntKind.i64.wrap ((i : Int) + 1)).toNat < ((ds.length : Int) - (i : Int)).toNat := by rw [wrap64 _ (by omega) (by omega)]; omega
      have hself : ∀ {w' : World}, flushO ds[i] = ds[i] → Ow (rsK ((ds.take i).map flushO ++ ds.drop i)) F w0 w' (blk k1 (rwC s ds.length bu.length) 33 :: X) → Ow (rsK ((ds.take (i + 1)).map flushO ++ ds.drop (i + 1))) F w0 w' (blk k1 (rwC s ds.length bu.length) 33 :: X) := fun hs h => by
        rw [← hnext ds[i] hs.symm, ← hset, set_get_same hgi]; exact h
      have hmem : ds[i] ∈ ds := List.getElem_mem hlt
      have hbget : (blks ds)[i]? = some (odB ds[i]) := blks_get (List.getElem?_eq_getElem hlt)
      generalize ds[i] = y at hgi hnext hany hself hmem hbget
      obtain ⟨a0, ha0, hcl⟩ := hX3.1.get hbget
      refine ⟨_, _, _, c1 H3 3 _ rfl, a0, ha0, by omega, by omega, _, by rw [Int.toNat_natCast]; exact hcl, ?_⟩
      cases y with
      | none =>
        refine yes rfl ⟨⟨i + 1, ?_, by omega, hself rfl H3⟩, hdec⟩
        rw [hwr, ← hany false rfl, Bool.or_false]
      | some z =>
        obtain ⟨p, a⟩ := z
        obtain ⟨Z9, hd9, _⟩ := Ow.rdrive H3 hgi
        refine no rfl ⟨⟨p, 0, none⟩, rfl, a.dead, hd9.dead, fun hd => ?_, fun hd => ?_⟩
        · have hfl : a.flush1 = 40 := by unfold AD.flush1; rw [if_pos hd]
          have hff : a.flush = a := by unfold AD.flush; rw [if_pos (by rw [hfl]; decide)]
          refine ⟨⟨i + 1, ?_, by omega, hself (by show some (p, a.flush) = _; rw [hff]) H3⟩, hdec⟩
          rw [hwr, ← hany false (by show false = (a.flush1 == 42); rw [hfl]; rfl), Bool.or_false]
        · refine (Ow.onRef H3 hgi fun Z hZ => rflush_r hZ (hF p a hmem)).mono fun e w5 ⟨he5, h5⟩ => ⟨_, he5, ?_⟩
          rw [hset, hnext (some (p, a.flush)) rfl] at h5
          refine ⟨beq_t fun h42 => ⟨⟨i + 1, ?_, by omega, h5⟩, hdec⟩, beq_f fun h42 => ⟨⟨i + 1, ?_, by omega, h5⟩, hdec⟩⟩
          · rw [hwr, ← hany true (by show true = (a.flush1 == 42); rw [h42]; rfl), Bool.or_true]; rfl
          · rw [hwr, ← hany false (by show false = (a.flush1 == 42); rw [beq_eq_false_iff_ne.2 h42]), Bool.or_false]
    · obtain rfl : i = ds.length := by omega
      rw [List.take_length, List.drop_length, List.append_nil] at H3
      rw [List.take_length]
      exact ⟨rfl, H3.dropX⟩
  · rw [if_neg hM, if_neg hM]
    exact yes (by rw [decide_eq_false hM]; rfl) ⟨rfl, H2.dropX⟩
theorem sameI_spec {A B : List Int} {p q : Option Addr} {c d : Nat} {w : World} (hl : A.length ≤ 1000000) (hp : intsL w p A) (hq : intsL w q B) : Ret Tryz.prog 30 #[.slice p A.length c, .slice q B.length d] w (.bool (decide (A = B))) := by
  refine ret_of (revetmentref10_Same_calls ?_)
  unfold revetmentref10_Same
  refine ⟨bne_t fun hne => ⟨by rw [decide_eq_false (fun e => hne (by rw [e]))], Ext.refl w⟩, bne_f fun he => ?_⟩
  have he : A.length = B.length := by omega
  refine ⟨fun vs w' => ∃ i : Nat, vs = [.int .i64 (i : Int)] ∧ i ≤ A.length ∧ A.take i = B.take i ∧ T [] w w' [], fun vs _ => match vs with | [.int _ i] => (A.length - i).toNat | _ => 0, ⟨0, rfl, by omega, rfl, T.nil w⟩, ?_⟩
  rintro vs w1 ⟨i, rfl, hi, ht, h1⟩
  refine ⟨_, rfl, dec_t fun hlt => ?_, dec_f fun hge => ?_⟩
  · have hlt : i < A.length := by omega
    have hx := h1.drew.chg.ext
    obtain ⟨a1, ha1, hc1⟩ := (hp.ext' hx).get' (n := i) hlt
    obtain ⟨a2, ha2, hc2⟩ := (hq.ext' hx).get' (n := i) (by omega)
    refine ⟨fun w' => w' = w1.drew, rfl, a1, ha1, by omega, by omega, A[i], fun w' hw => (by rw [hw, Int.toNat_natCast]; exact hc1), a2, ha2, by omega, by omega, B[i], fun w' hw => (by rw [hw, Int.toNat_natCast]; exact hc2), bne_t fun hne => ?_, bne_f fun heq => ?_⟩
    · refine ⟨?_, hx⟩
      rw [decide_eq_false]
      intro e
      subst e
      exact hne rfl
    · refine ⟨⟨i + 1, by rw [wrap64 _ (by omega) (by omega)]; rfl, by omega, ?_, h1.drew⟩, ?_⟩
      · rw [List.take_add_one, List.take_add_one, ht, List.getElem?_eq_getElem hlt, List.getElem?_eq_getElem (by omega), heq]
      · show ((A.length : Int) - IntKind.i64.wrap ((i : Int) + 1)).toNat < ((A.length : Int) - (i : Int)).toNat
        rw [wrap64 _ (by omega) (by omega)]; omega
  · obtain rfl : i = A.length := by omega
    rw [List.take_length, he, List.take_length] at ht
    exact ⟨by rw [decide_eq_true ht], h1.chg.ext⟩
end Go.Proofs.YtedbbdeeofdepaaGreat
end
section
/-! mend: a set that is owned, as a kind. -/
namespace Go.Proofs.YtedbbdeeofdepaaGreat
open Go.Sh Go.RowKit
set_option linter.unusedVariables false
set_option linter.unusedSimpArgs false
set_option maxRecDepth 20000
set_option maxHeartbeats 1000000
/-- where a set's pointers and numbers lie -/
abbrev seR (s : RwS) (ds : List Od) (bu : List Int) (g1 g2 : Nat) : List A := [rowP 40 1 (some g1) ds.length s.cd (ptrsV (blks ds)), rowP 3 1 (some g2) bu.length s.cb (intsI bu)]
/-- a set, with its drives -/
def seK (s : RwS) (ds : List Od) (bu : List Int) : Kd := fun Y => ∃ (g1 g2 : Nat) (Z : List A), s.pd = some ⟨g1, 0, none⟩ ∧ s.pb = some ⟨g2, 0, none⟩ ∧ dsK ds Z ∧ Y = seR s ds bu g1 g2 ++ Z
section
variable {s : RwS} {ds : List Od} {bu : List Int} {F : List Nat} {w0 w : World} {X : List A}
theorem se_open (H : Ow (seK s ds bu) F w0 w X) : ∃ g1 g2 : Nat, s.pd = some ⟨g1, 0, none⟩ ∧ s.pb = some ⟨g2, 0, none⟩ ∧ Ow (dsK ds) F w0 w (X ++ seR s ds bu g1 g2) := by
  obtain ⟨Y, ⟨g1, g2, Z, h1, h2, h3, rfl⟩, hT⟩ := H
  exact ⟨g1, g2, h1, h2, Z, h3, by rw [List.append_assoc]; exact hT⟩
theorem se_shut {g1 g2 : Nat} (h1 : s.pd = some ⟨g1, 0, none⟩) (h2 : s.pb = some ⟨g2, 0, none⟩) (H : Ow (dsK ds) F w0 w (X ++ seR s ds bu g1 g2)) : Ow (seK s ds bu) F w0 w X := by
  obtain ⟨Z, h3, hT⟩ := H
  exact ⟨_, ⟨g1, g2, Z, h1, h2, h3, rfl⟩, by rw [← List.append_assoc]; exact hT⟩
theorem se_w (H : Ow (seK s ds bu) F w0 w X) : RwW s ds bu w := by
  obtain ⟨g1, g2, h1, h2, H⟩ := se_open H
  refine ⟨⟨F, w0, _, H⟩, ?_, ?_⟩
  · rw [h1]; exact (T.ptrs H.under (g := some g1) (t := 40) (n := ds.length) (cap := s.cd) (ps := blks ds) (List.mem_append_right _ (by repeat (first | exact List.Mem.head _ | refine List.Mem.tail _ ?_)))).1
  · rw [h2]; exact (T.ints H.under (g := some g2) (n := bu.length) (cap := s.cb) (l := bu) (List.mem_append_right _ (by repeat (first | exact List.Mem.head _ | refine List.Mem.tail _ ?_)))).1
theorem se_set {ds' : List Od} {g1 g2 : Nat} (hb : blks ds' = blks ds) : seR s ds' bu g1 g2 = seR s ds bu g1 g2 := by
  have hl : ds'.length = ds.length := by have := congrArg List.length hb; rwa [blks_len, blks_len] at this
  unfold seR
  rw [hb, hl]
theorem se_dcell (H : Ow (seK s ds bu) F w0 w X) {i : Nat} {y : Od} (hy : ds[i]? = some y) : ∃ a, s.pd = some a ∧ w.cell? (a.add (i * 1)) = some (.pointer (ptr (odB y))) := (se_w H).pd.get (blks_get hy)
/-- a call on one drive of a set -/
theorem se_on {P : Program} {f : FuncId} {args : Array Value} {v : Value} {p i : Nat} {a b : AD} (H : Ow (seK s ds bu) F w0 w X) (hk : ds[i]? = some (some (p, a))) (hc : ∀ Z, Dr p a F w0 w (X ++ Z) → Calls P f args w fun e w' => e = .returned v ∧ Dr p b F w0 w' (X ++ Z)) : Calls P f args w fun e w' => e = .returned v ∧ Ow (seK s (ds.set i (some (p, b))) bu) F w0 w' X := by
  obtain ⟨g1, g2, h1, h2, H⟩ := se_open H
  refine (Ow.onDrive (b := b) H hk fun Z hZ => ?_).mono fun e w' ⟨he, h'⟩ => ⟨he, se_shut h1 h2 (by rw [se_set (blks_set hk)]; exact h')⟩
  rw [List.append_assoc] at hZ ⊢
  exact hc _ hZ
/-- a drive is forgotten, and its pointer -/
theorem se_none {i : Nat} {K : World → Prop} {ad : Addr} (H : Ow (seK s ds bu) F w0 w X) (hp : s.pd = some ad) (hi : i < ds.length) (hK : ∀ w', Ow (seK s (ds.set i none) bu) F w0 w' X → K w') : St (ad.add (i * 1)) (.pointer none) w K := by
  obtain ⟨g1, g2, h1, h2, H⟩ := se_open H
  rw [h1] at hp
  cases hp
  have H : Ow (dsK ds) F w0 w (rowP 40 1 (some g1) ds.length s.cd (ptrsV (blks ds)) :: (X ++ [rowP 3 1 (some g2) bu.length s.cb (intsI bu)])) := H.perm List.perm_middle
  refine Ow.stRow (Ow.forget H i) .head (by rw [ptrsV_len, blks_len]; exact hi) rfl fun w' H' => hK w' ?_
  rw [ptrsV_none] at H'
  refine se_shut h1 h2 ?_
  unfold seR
  rw [List.length_set]
  exact H'.perm List.perm_middle.symm
/-- a number of a set is stored -/
theorem se_bu {i : Nat} {x : Int} {K : World → Prop} {ad : Addr} (H : Ow (seK s ds bu) F w0 w X) (hp : s.pb = some ad) (hi : i < bu.length) (hK : ∀ w', Ow (seK s ds (bu.set i x)) F w0 w' X → K w') : St (ad.add (i * 1)) (.int .i64 x) w K := by
  obtain ⟨g1, g2, h1, h2, H⟩ := se_open H
  rw [h2] at hp
  cases hp
  have H : Ow (dsK ds) F w0 w (rowP 3 1 (some g2) bu.length s.cb (intsI bu) :: (X ++ [rowP 40 1 (some g1) ds.length s.cd (ptrsV (blks ds))])) := by
    refine H.perm ?_
    refine (List.Perm.append_left _ (.swap _ _ _)).trans ?_
    exact List.perm_middle
  refine Ow.stRow H .head (by rw [intsI_len]; exact hi) rfl fun w' H' => hK w' ?_
  rw [intsI_set] at H'
  refine se_shut h1 h2 ?_
  unfold seR
  rw [List.length_set]
  exact H'.perm (List.perm_middle.symm.trans (List.Perm.append_left _ (.swap _ _ _)))
theorem se_write (H : Ow (seK s ds bu) F w0 w X) (hl : ds.length ≤ 1000000) (hF : FewL ds 1000000) (row off role : Int) (x : ByteArray) :
    Calls Tryz.prog 13 #[.agg (rwC s ds.length bu.length), .int .i64 row, .int .i64 off, .int .i64 role, .string x] w fun e w' => e = .returned (.int .i64 (writeE s ds bu row off role x)) ∧ Ow (seK s (writeD s ds bu row off role x) bu) F w0 w' X := by
  have hW := se_w H
  obtain ⟨g1, g2, h1, h2, H⟩ := se_open H
  exact (write16_spec H hW.pd hW.pb hl hF row off role x).mono fun e w' ⟨he, h'⟩ => ⟨he, se_shut h1 h2 (by rw [se_set (writeD_blks ..)]; exact h')⟩
theorem se_flush (H : Ow (seK s ds bu) F w0 w X) (hl : ds.length ≤ 1000000) (hF : FewL ds 1000000) :
    Calls Tryz.prog 19 #[.agg (rwC s ds.length bu.length)] w fun e w' => e = .returned (.int .i64 (if RMay s ds bu then (if ds.any offO then 42 else 0) else 1)) ∧ Ow (seK s (if RMay s ds bu then ds.map flushO else ds) bu) F w0 w' X := by
  obtain ⟨g1, g2, h1, h2, H⟩ := se_open H
  refine (flush16_spec H (s := s) (bu := bu) (fun w' h' => ?_) hl hF).mono fun e w' ⟨he, h'⟩ => ⟨he, se_shut h1 h2 ?_⟩
  · refine ⟨?_, ?_⟩
    · rw [h1]; exact (T.ptrs h' (g := some g1) (t := 40) (n := ds.length) (cap := s.cd) (ps := blks ds) (List.mem_append_right _ (by repeat (first | exact List.Mem.head _ | refine List.Mem.tail _ ?_)))).1
    · rw [h2]; exact (T.ints h' (g := some g2) (n := bu.length) (cap := s.cb) (l := bu) (List.mem_append_right _ (by repeat (first | exact List.Mem.head _ | refine List.Mem.tail _ ?_)))).1
  · have e1 : blks (if RMay s ds bu then ds.map flushO else ds) = blks ds := by
      split
      · exact flush_blks ds
      · rfl
    rw [se_set e1]; exact h'
end
end Go.Proofs.YtedbbdeeofdepaaGreat
end
