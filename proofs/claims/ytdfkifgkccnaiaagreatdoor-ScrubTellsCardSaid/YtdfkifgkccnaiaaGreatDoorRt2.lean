import Derived.Test.YtdfkifgkccnaiaaGreatDoorRt1
/-! The reference's refill: at, sums; the search for a byte. -/
namespace Go.Proofs.YtdfkifgkccnaiaaGreatDoor
open Go.Sh Go.RowKit
set_option linter.unusedVariables false
set_option linter.unusedSimpArgs false
set_option maxRecDepth 20000
set_option maxHeartbeats 2000000
def atZ (L : List Txt) (lost : List Int) (k : Nat) : Nat → UInt8 := fun c => if (c : Int) ∈ lost then 0 else (L.getD c []).getD k 0
def atL (L : List Txt) (lost : List Int) (k : Nat) : Txt := (List.range L.length).map (atZ L lost k)
theorem atL_len (L : List Txt) (lost : List Int) (k : Nat) : (atL L lost k).length = L.length := by simp [atL]
theorem at_spec {L : List Txt} {lost : List Int} {k : Nat} (hl : lost.length ≤ 1000000) (hL : L.length ≤ 1000) (hk : ∀ j, j < L.length → (j : Int) ∉ lost → k < (L.getD j []).length) {p q : Option Addr} {c d : Nat} {w0 w : World} {Γ : List A} (hp : strsL w0 p L) (hq : intsL w0 q lost) (hT : T [] w0 w Γ) :
    Calls Tryz.prog 58 #[.slice p L.length c, .slice q lost.length d, .int .i64 (k : Int)] w fun e w' => ∃ g cap, e = .returned (.slice (ptr g) L.length cap) ∧ T [] w0 w' (rowP 5 1 g L.length cap (bvals (atL L lost k)) :: Γ) := by
  refine (revetmentref06_at_calls (R := fun v w' => ∃ g cap, v = .slice (ptr g) L.length cap ∧ T [] w0 w' (rowP 5 1 g L.length cap (bvals (atL L lost k)) :: Γ)) ?_).mono fun e w' ⟨v, he, g, cap, hv, h⟩ => ⟨g, cap, by rw [he, hv], h⟩
  unfold revetmentref06_at
  refine Alloc.t hT fun k0 w1 h1 => ?_
  have h1 : T [] w0 w1 (rowP 5 1 (some k0) 0 0 (bvals ((atL L lost k).take 0)) :: Γ) := blk_row h1 rfl rfl (by decide)
  refine ⟨fun vs w' => ∃ (i : Nat) (g : Option Nat) (cap : Nat), vs = [.slice (ptr g) i cap, .int .i64 (i : Int)] ∧ i ≤ L.length ∧ T [] w0 w' (rowP 5 1 g i cap (bvals ((atL L lost k).take i)) :: Γ), fun vs _ => match vs with | [_, .int _ i] => (L.length - i).toNat | _ => 0, ⟨0, some k0, 0, rfl, by omega, h1⟩, ?_⟩
  rintro vs w2 ⟨i, g, cap, rfl, hi, h2⟩
  refine ⟨_, _, _, _, rfl, dec_t fun hlt => ?_, dec_f fun hge => ?_⟩
  · have hlt : i < L.length := by omega
    refine Join.intro fun J hJ => ?_
    refine (has_spec hl (i : Int) (c := d) (hq.ext h2.chg.ext)).mono fun e w3 ⟨he, hx3⟩ => ?_
    have h3 := h2.quiet hx3
    have main : J [.int .u8 ((atZ L lost k i).toNat : Int)] w3 := by
      refine hJ _ _ ⟨_, rfl, ?_⟩
      refine push1_t (i := Tryz.t5) (z := .int .u8 0) (by kernel_rfl) (by kernel_rfl) (by kernel_rfl) (by kernel_rfl) (by kernel_rfl) (by kernel_rfl) h3 .head rfl (by omega) fun g2 cap2 w8 h8 => ⟨⟨i + 1, g2, cap2, ?_, by omega, ?_⟩, ?_⟩
      · rw [wrap64 _ (by omega) (by omega)]; rfl
      · rw [bvals_next (by simp [atL, hlt])] at h8
        exact h8
      · show ((L.length : Int) - IntKind.i64.wrap ((i : Int) + 1)).toNat < ((L.length : Int) - (i : Int)).toNat
        rw [wrap64 _ (by omega) (by omega)]; omega
    refine ⟨_, he, fun hb => ?_, fun hb => ?_⟩
    · have hm : (i : Int) ∉ lost := by simpa using hb
      obtain ⟨a, ha, hc⟩ := (hp.ext h3.chg.ext).get hlt
      have hkl := hk i hlt hm
      have hix := index_str (P := Tryz.prog) (t := 9) (k := .i64) (n := (k : Int)) (s := strB (L.getD i [])) (w := w3) (by kernel_rfl) (by omega) (by rw [strB_size]; omega)
      rw [Int.toNat_natCast] at hix
      have e1 : atZ L lost k i = (L.getD i []).getD k 0 := if_neg hm
      rw [e1] at main
      exact ⟨a, ha, by omega, by omega, _, by rw [Int.toNat_natCast]; exact hc, _, w3, hix, main⟩
    · have hm : (i : Int) ∈ lost := by simpa using hb
      have e1 : atZ L lost k i = 0 := if_pos hm
      rw [e1] at main
      exact main
  · have hie : i = L.length := by omega
    subst hie
    rw [List.take_of_length_le (by rw [atL_len]; omega)] at h2
    exact ⟨g, cap, rfl, h2⟩
def vf (v : Txt) : Nat → UInt8 := fun c => v.getD c 0
def pS (v : Txt) : UInt8 := vf v (v.length - 2) ^^^ sx (vf v) (v.length - 2)
def qS (v : Txt) : UInt8 := vf v (v.length - 1) ^^^ sx (wq (vf v)) (v.length - 2)
theorem row_byte {F : List Nat} {w0 w : World} {Γ : List A} {b n cap : Nat} {v : Txt} (h : T F w0 w Γ) (hm : rowP 5 1 (some b) n cap (bvals v) ∈ Γ) {j : Nat} (hj : j < v.length) : w.cell? (Addr.add ⟨b, 0, none⟩ (j * 1)) = some (.int .u8 ((vf v j).toNat : Int)) := by
  rw [addr_add, Nat.zero_add, Nat.mul_one]
  refine rowP.cell (h.says hm) ?_
  rw [bvals_get]
  simp [vf, List.getD, hj]
theorem bvals_put (v : Txt) (j : Nat) (x : UInt8) : (bvals v).set j (.int .u8 (x.toNat : Int)) = bvals (v.set j x) := by simp [bvals, List.map_set]
theorem StB.t {F : List Nat} {w0 w : World} {Γ Δ : List A} {n cap b k : Nat} {v : Txt} {x : UInt8} {K : World → Prop} (hT : T F w0 w Γ) (hk : Pick (rowP 5 1 (some b) n cap (bvals v)) Γ Δ) (hkl : k < v.length)
    (h : ∀ w', T F w0 w' (rowP 5 1 (some b) n cap (bvals (v.set k x)) :: Δ) → K w') : St (Addr.add ⟨b, 0, none⟩ (k * 1)) (.int .u8 (x.toNat : Int)) w K := by
  rw [addr_add, Nat.zero_add, Nat.mul_one]
  refine StRow.t hT hk (by rw [bvals_len]; exact hkl) rfl fun w' h' => h w' ?_
  rw [bvals_put] at h'
  exact h'
theorem row_vlen {F : List Nat} {w0 w : World} {Γ : List A} {g : Option Nat} {n cap : Nat} {v : Txt} (h : T F w0 w Γ) (hm : rowP 5 1 g n cap (bvals v) ∈ Γ) : v.length = n := by
  have := rowP.len (h.says hm)
  rw [bvals_len] at this; omega
theorem sums_spec {v : Txt} (h2 : 2 ≤ v.length) (h200 : v.length ≤ 200) {F : List Nat} {w0 w : World} {Γ : List A} {b n cap : Nat} (hT : T F w0 w Γ) (hm : rowP 5 1 (some b) n cap (bvals v) ∈ Γ) :
    Ret Tryz.prog 83 #[.slice (some ⟨b, 0, none⟩) n cap] w (.tuple #[.int .u8 ((pS v).toNat : Int), .int .u8 ((qS v).toNat : Int)]) := by
  refine ret_of (revetmentref06_sums_calls ?_)
  unfold revetmentref06_sums
  have hvn := row_vlen hT hm
  subst hvn
  have e1 : IntKind.i64.wrap ((v.length : Int) - 2) = ((v.length - 2 : Nat) : Int) := by rw [wrap64 _ (by omega) (by omega)]; omega
  have e2 : IntKind.i64.wrap (((v.length - 2 : Nat) : Int) + 1) = ((v.length - 1 : Nat) : Int) := by rw [wrap64 _ (by omega) (by omega)]; omega
  simp only [e1, e2]
  have cell : ∀ w', Ext w w' → ∀ j : Nat, j < v.length → w'.cell? (Addr.add ⟨b, 0, none⟩ (((j : Nat) : Int).toNat * 1)) = some (.int .u8 ((vf v j).toNat : Int)) := fun w' hx j hj => by
    rw [Int.toNat_natCast]
    exact row_byte (hT.quiet hx) hm hj
  refine ⟨_, rfl, by omega, by omega, _, cell w (Ext.refl w) _ (by omega), _, rfl, by omega, by omega, _, cell w (Ext.refl w) _ (by omega), ?_⟩
  refine ⟨fun vs w' => Ext w w' ∧ ∃ i : Nat, vs = [.int .u8 ((vf v (v.length - 2) ^^^ sx (vf v) i).toNat : Int), .int .u8 ((vf v (v.length - 1) ^^^ sx (wq (vf v)) i).toNat : Int), .int .i64 (i : Int)] ∧ i ≤ v.length - 2, fun vs _ => match vs with | [_, _, .int _ i] => ((v.length - 2 : Nat) - i).toNat | _ => 0, ⟨Ext.refl w, 0, by simp [sx], by omega⟩, ?_⟩
  rintro vs w1 ⟨hx, i, rfl, hi⟩
  refine ⟨_, _, _, rfl, dec_t fun hlt => ?_, dec_f fun hge => ?_⟩
  · have hlt : i < v.length - 2 := by omega
    refine ⟨_, rfl, by omega, by omega, _, cell w1 hx i (by omega), fun w' => Ext w w', hx.drew, _, rfl, by omega, by omega, _, fun w' h' => cell w' h' i (by omega), ?_⟩
    refine (expR_spec (i : Int) _).mono fun e w2 ⟨he, hx2⟩ => ⟨_, he, hx.drew.trans hx2, ?_⟩
    rw [exI_pos (by omega)]
    refine (mulR_spec (vf v i) (ex i) w2).mono fun e w3 ⟨he, hx3⟩ => ⟨_, he, (hx.drew.trans hx2).trans hx3, ⟨(hx.drew.trans hx2).trans hx3, i + 1, ?_, by omega⟩, ?_⟩
    · rw [u8_xor, u8_xor, wrap64 _ (by omega) (by omega), UInt8.xor_assoc, UInt8.xor_assoc, mulG_ex]; rfl
    · show (((v.length - 2 : Nat) : Int) - IntKind.i64.wrap ((i : Int) + 1)).toNat < (((v.length - 2 : Nat) : Int) - (i : Int)).toNat
      rw [wrap64 _ (by omega) (by omega)]; omega
  · have hie : i = v.length - 2 := by omega
    subst hie
    exact ⟨rfl, hx⟩
/-! one place, filled -/
theorem vf_set {v : Txt} {i : Nat} (hi : i < v.length) (x : UInt8) (c : Nat) : vf (v.set i x) c = if i = c then x else vf v c := by
  unfold vf
  simp only [List.getD_eq_getElem?_getD, List.getElem?_set]
  by_cases h : i = c
  · rw [if_pos h, if_pos hi, if_pos h]; rfl
  · rw [if_neg h, if_neg h]
theorem vf_out {v : Txt} {i c : Nat} (hi : i < v.length) (h : c ≠ i) (x : UInt8) : vf (v.set i x) c = vf v c := by rw [vf_set hi, if_neg (Ne.symm h)]
theorem vf_at {v : Txt} {i : Nat} (hi : i < v.length) (x : UInt8) : vf (v.set i x) i = x := by rw [vf_set hi, if_pos rfl]
theorem sx_put {v : Txt} {i n : Nat} (hi : i < n) (hn : n ≤ v.length) (x : UInt8) : sx (vf (v.set i x)) n = sx (vf v) n ^^^ (x ^^^ vf v i) := by
  have h := sx_xor (vf (v.set i x)) (vf v) n
  rw [sx_one (f := fun c => vf (v.set i x) c ^^^ vf v c) hi fun c hc h1 => by rw [vf_out (by omega) h1, UInt8.xor_self], vf_at (by omega)] at h
  rw [h, UInt8.xor_comm, UInt8.xor_assoc, UInt8.xor_self, UInt8.xor_zero]
theorem sq_put {v : Txt} {i n : Nat} (hi : i < n) (hn : n ≤ v.length) (x : UInt8) : sx (wq (vf (v.set i x))) n = sx (wq (vf v)) n ^^^ xp i (x ^^^ vf v i) := by
  have h := sx_xor (wq (vf (v.set i x))) (wq (vf v)) n
  rw [sx_one (f := fun c => wq (vf (v.set i x)) c ^^^ wq (vf v) c) hi fun c hc h1 => by unfold wq; rw [vf_out (by omega) h1, UInt8.xor_self]] at h
  unfold wq at h ⊢
  rw [vf_at (by omega), ← xp_xor] at h
  rw [h, UInt8.xor_comm, UInt8.xor_assoc, UInt8.xor_self, UInt8.xor_zero]
theorem xor_mid (a b : UInt8) : a ^^^ (b ^^^ a) = b := by rw [UInt8.xor_comm b, ← UInt8.xor_assoc, UInt8.xor_self, UInt8.zero_xor]
/-- by P -/
theorem put_p {v : Txt} {d : Nat} (hd : d < v.length - 2) (h0 : vf v d = 0) : PRel (vf (v.set d (pS v))) (v.length - 2) := by
  unfold PRel
  rw [sx_put hd (by omega), vf_out (by omega) (by omega), h0, UInt8.xor_zero]
  unfold pS
  rw [xor_mid]
/-- by Q -/
theorem put_q {v : Txt} {d : Nat} {x : UInt8} (hd : d < v.length - 2) (h0 : vf v d = 0) (hx : xp d x = qS v) : QRel (vf (v.set d x)) (v.length - 2) := by
  unfold QRel
  rw [sq_put hd (by omega), vf_out (by omega) (by omega), h0, UInt8.xor_zero, hx]
  unfold qS
  rw [show v.length - 2 + 1 = v.length - 1 by omega, xor_mid]
theorem put_pq {v : Txt} {d k : Nat} {x : UInt8} (hd : d < v.length - 2) (hk : k < v.length - 2) (hdk : d ≠ k) (h0 : vf v d = 0) (h1 : vf v k = 0) (hx : xp d x ^^^ xp k (x ^^^ pS v) = qS v) : PRel (vf ((v.set d x).set k (x ^^^ pS v))) (v.length - 2) ∧ QRel (vf ((v.set d x).set k (x ^^^ pS v))) (v.length - 2) := by
  constructor
  · unfold PRel
    rw [sx_put hk (by simp), vf_out (by simp; omega) (by omega), vf_out (by omega) (by omega), sx_put hd (by omega), vf_out (by omega) (Ne.symm hdk), h0, h1, UInt8.xor_zero, UInt8.xor_zero, UInt8.xor_assoc, ← UInt8.xor_assoc x, UInt8.xor_self, UInt8.zero_xor]
    unfold pS
    rw [xor_mid]
  · unfold QRel
    rw [sq_put hk (by simp), vf_out (by simp; omega) (by omega), vf_out (by omega) (by omega), sq_put hd (by omega), vf_out (by omega) (Ne.symm hdk), h0, h1, UInt8.xor_zero, UInt8.xor_zero, UInt8.xor_assoc, hx]
    unfold qS
    rw [show v.length - 2 + 1 = v.length - 1 by omega, xor_mid]
/-- the last touch: P, and Q -/
theorem fix_p {v : Txt} (h2 : 2 ≤ v.length) : PRel (vf (v.set (v.length - 2) (vf v (v.length - 2) ^^^ pS v))) (v.length - 2) := by
  unfold PRel
  rw [vf_at (by omega)]
  unfold pS
  rw [← UInt8.xor_assoc, UInt8.xor_self, UInt8.zero_xor]
  exact sx_congr fun c hc => (vf_out (by omega) (by omega) _).symm
theorem fix_p_q {v : Txt} (h2 : 2 ≤ v.length) (x : UInt8) (hQ : QRel (vf v) (v.length - 2)) : QRel (vf (v.set (v.length - 2) x)) (v.length - 2) := by
  unfold QRel at hQ ⊢
  rw [vf_out (by omega) (by omega), hQ]
  exact sx_congr fun c hc => congrArg (xp c) (vf_out (by omega) (by omega) _).symm
theorem fix_q {v u : Txt} (h2 : 2 ≤ v.length) (hu : u.length = v.length) (hs : ∀ c, c ≠ v.length - 2 → vf u c = vf v c) : QRel (vf (u.set (v.length - 1) (vf u (v.length - 1) ^^^ qS v))) (v.length - 2) := by
  unfold QRel
  rw [show v.length - 2 + 1 = v.length - 1 by omega, vf_at (by omega), hs _ (by omega)]
  unfold qS
  rw [← UInt8.xor_assoc, UInt8.xor_self, UInt8.zero_xor]
  exact sx_congr fun c hc => congrArg (xp c) (by rw [vf_out (by omega) (by omega), hs c (by omega)])
theorem fix_q_p {v u : Txt} (h2 : 2 ≤ v.length) (hu : u.length = v.length) (x : UInt8) (hP : PRel (vf u) (v.length - 2)) : PRel (vf (u.set (v.length - 1) x)) (v.length - 2) := by
  unfold PRel at hP ⊢
  rw [vf_out (by omega) (by omega), hP]
  exact sx_congr fun c hc => (vf_out (by omega) (by omega) _).symm
end Go.Proofs.YtdfkifgkccnaiaaGreatDoor
