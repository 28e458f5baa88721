import Derived.Test.YtdppllkjibfjcaaPk1
/-! pack: Size, Fits, places. -/
namespace Go.Proofs.Ytdppllkjibfjcaa
open Go.Sh Go.RowKit
set_option linter.unusedVariables false
set_option maxRecDepth 20000
set_option maxHeartbeats 1000000
def ints (ws : List Nat) : List Value := ws.map fun (x : Nat) => .int .i64 (x : Int)
def u64s (ns : List Nat) : List Value := ns.map fun (x : Nat) => .int .u64 (x : Int)
theorem ints_get {ws : List Nat} {i x : Nat} (h : ws[i]? = some x) : (ints ws)[i]? = some (.int .i64 (x : Int)) := by simp [ints, h]
theorem u64s_get {ws : List Nat} {i x : Nat} (h : ws[i]? = some x) : (u64s ws)[i]? = some (.int .u64 (x : Int)) := by simp [u64s, h]
/-- widths that may be -/
def Wid (ws : List Nat) : Prop := ws.length ≤ 64 ∧ ∀ x ∈ ws, 1 ≤ x ∧ x ≤ 8
theorem Wid.at {ws : List Nat} (h : Wid ws) {i x : Nat} (hi : ws[i]? = some x) : 1 ≤ x ∧ x ≤ 8 := h.2 x (List.mem_of_getElem? hi)
theorem widsum_le : ∀ (ws : List Nat), (∀ x ∈ ws, 1 ≤ x ∧ x ≤ 8) → ws.sum ≤ 8 * ws.length
  | [], _ => by simp
  | w :: ws, h => by
    have := widsum_le ws fun x hx => h x (List.mem_cons_of_mem _ hx)
    have := h w List.mem_cons_self
    simp only [List.sum_cons, List.length_cons]; omega
theorem Wid.sum {ws : List Nat} (h : Wid ws) : ws.sum ≤ 512 := by
  have h1 := widsum_le ws h.2
  have h2 := h.1
  omega
/-- a row of widths, to be read in this world -/
def readsW (w : World) (g : Option Nat) (ws : List Nat) : Prop := ∀ (j x : Nat), ws[j]? = some x → ∃ b, g = some b ∧ w.cell? ⟨b, j, none⟩ = some (.int .i64 (x : Int))
theorem T.readsW {F : List Nat} {w0 w : World} {Γ : List A} {g : Option Nat} {n cap : Nat} {ws : List Nat} (hT : T F w0 w Γ) (hm : rowP 3 1 g n cap (ints ws) ∈ Γ) : readsW w g ws := by
  intro j x hx
  have hs := hT.says hm
  have hl : ws.length = n := by have := rowP.len hs; simpa [ints] using this
  have hj := (List.getElem?_eq_some_iff.1 hx).1
  obtain ⟨b, rfl⟩ := rowP.pos hs (by omega)
  exact ⟨b, rfl, rowP.cell hs (ints_get hx)⟩
theorem size_spec {ws : List Nat} (hv : Wid ws) {w : World} {g : Option Nat} {cap : Nat} (hm : readsW w g ws) : Ret Try.prog 74 #[.slice (ptr g) ws.length cap] w (.tuple #[.int .i64 (ws.sum : Int), .int .i64 0]) := by
  refine ret_of (pack_Size_calls ?_)
  unfold pack_Size
  have hs := hv.sum
  have hl := hv.1
  refine ⟨fun vs w' => w' = w ∧ ∃ i : Nat, vs = [.int .i64 (wsum ws i : Int), .int .i64 (i : Int)] ∧ i ≤ ws.length, fun vs _ => match vs with | [_, .int _ i] => (ws.length - i).toNat | _ => 0, ⟨rfl, 0, rfl, by omega⟩, ?_⟩
  rintro vs w1 ⟨rfl, i, rfl, hi⟩
  refine ⟨_, _, rfl, dec_t fun hlt => ?_, dec_f fun hge => ?_⟩
  · have hlt : i < ws.length := by omega
    obtain ⟨b, rfl, hc⟩ := hm i ws[i] (by simp [hlt])
    have hx := hv.at (i := i) (x := ws[i]) (by simp [hlt])
    have hst := wsum_step (ws := ws) (i := i) (x := ws[i]) (by simp [hlt])
    have hmx := wsum_max (ws := ws) (i + 1)
    refine ⟨_, rfl, by omega, by omega, (ws[i] : Int), by rw [addr_add, Nat.zero_add, Nat.mul_one, Int.toNat_natCast]; exact hc, no (decide_eq_false (by omega)) (no (decide_eq_false (by omega)) ⟨⟨rfl, i + 1, ?_, by omega⟩, ?_⟩)⟩
    · rw [wrap64 _ (by omega) (by omega), wrap64 _ (by omega) (by omega), hst]; simp
    · show ((ws.length : Int) - IntKind.i64.wrap ((i : Int) + 1)).toNat < ((ws.length : Int) - (i : Int)).toNat
      rw [wrap64 _ (by omega) (by omega)]; omega
  · have hie : i = ws.length := by omega
    subst hie
    rw [wsum_all ws (Nat.le_refl _)]
    exact no (decide_eq_false (by omega)) ⟨rfl, Ext.refl _⟩
theorem fits_spec (n x : Nat) (hn : n < 256 ^ x) (hx : 1 ≤ x ∧ x ≤ 8) (w : World) : Ret Try.prog 75 #[.int .u64 (n : Int), .int .i64 (x : Int)] w (.bool true) := by
  refine ret_of (pack_Fits_calls ?_)
  unfold pack_Fits
  refine ⟨fun _ => ⟨rfl, Ext.refl w⟩, fun h8 => yes (decide_eq_true (by omega)) ?_⟩
  have h8 : (x : Int) ≠ 8 := by simpa using h8
  refine yes (decide_eq_true (by omega)) ⟨by rw [wrap64 _ (by omega) (by omega)]; omega, ?_, Ext.refl w⟩
  rw [wrap64 _ (by omega) (by omega), show (8 * (x : Int)).toNat = 8 * x by omega, Nat.min_eq_left (by omega), Int.fdiv_eq_ediv_of_nonneg _ (Int.le_of_lt (Int.pow_pos (by decide)))]
  have h1 : n / 2 ^ (8 * x) = 0 := by
    rw [Nat.div_eq_of_lt]
    rw [Nat.pow_mul]; exact hn
  have h2 : ((n : Int) / 2 ^ (8 * x)) = ((n / 2 ^ (8 * x) : Nat) : Int) := by push_cast; rfl
  rw [h2, h1]
  rfl
theorem fits_not (n x : Nat) (hn : ¬ n < 256 ^ x) (hx : 1 ≤ x ∧ x ≤ 7) (w : World) : Ret Try.prog 75 #[.int .u64 (n : Int), .int .i64 (x : Int)] w (.bool false) := by
  refine ret_of (pack_Fits_calls ?_)
  unfold pack_Fits
  refine no (by simp; omega) (yes (decide_eq_true (by omega)) (yes (decide_eq_true (by omega)) ⟨by rw [wrap64 _ (by omega) (by omega)]; omega, ?_, Ext.refl w⟩))
  rw [wrap64 _ (by omega) (by omega), show (8 * (x : Int)).toNat = 8 * x by omega, Nat.min_eq_left (by omega), Int.fdiv_eq_ediv_of_nonneg _ (Int.le_of_lt (Int.pow_pos (by decide)))]
  have h1 : n / 2 ^ (8 * x) ≠ 0 := by
    intro h
    have := (Nat.div_eq_zero_iff.1 h).resolve_left (by have := Nat.two_pow_pos (8 * x); omega)
    rw [Nat.pow_mul] at this
    exact hn this
  have h2 : ((n : Int) / 2 ^ (8 * x)) = ((n / 2 ^ (8 * x) : Nat) : Int) := by push_cast; rfl
  rw [h2]
  have : (((n / 2 ^ (8 * x) : Nat) : Int) == 0) = false := by simp; omega
  rw [this]
/-- the m-th place: whose it is, how far up -/
def placeL : List Nat → Nat → List (Nat × Nat)
  | [], _ => []
  | w :: ws, i => ((List.range w).map fun k => (i, 8 * k)) ++ placeL ws (i + 1)
theorem placeL_len : ∀ (ws : List Nat) (i : Nat), (placeL ws i).length = ws.sum
  | [], _ => rfl
  | w :: ws, i => by simp [placeL, placeL_len ws (i + 1)]
theorem placeL_get : ∀ (ws : List Nat) (o i k x : Nat), ws[i]? = some x → k < x → (placeL ws o)[wsum ws i + k]? = some (o + i, 8 * k)
  | [], _, _, _, _, h, _ => by simp at h
  | w :: ws, o, 0, k, x, h, hk => by
    simp only [List.getElem?_cons_zero, Option.some.injEq] at h
    subst h
    simp only [placeL, wsum_zero, Nat.zero_add]
    rw [List.getElem?_append_left (by simpa using hk)]
    simp [hk]
  | w :: ws, o, i + 1, k, x, h, hk => by
    simp only [List.getElem?_cons_succ] at h
    simp only [placeL, wsum_cons]
    rw [List.getElem?_append_right (by simp; omega)]
    simp only [List.length_map, List.length_range]
    rw [show w + wsum ws i + k - w = wsum ws i + k by omega, placeL_get ws (o + 1) i k x h hk]
    congr 2; omega
theorem placeL_inv : ∀ (ws : List Nat) (o m : Nat), m < ws.sum → ∃ i k x, ws[i]? = some x ∧ k < x ∧ m = wsum ws i + k
  | [], _, m, h => by simp at h
  | w :: ws, o, m, h => by
    by_cases hm : m < w
    · exact ⟨0, m, w, rfl, hm, by simp [wsum]⟩
    · simp only [List.sum_cons] at h
      obtain ⟨i, k, x, h1, h2, h3⟩ := placeL_inv ws o (m - w) (by omega)
      exact ⟨i + 1, k, x, by simpa using h1, h2, by rw [wsum_cons]; omega⟩
/-- the arguments of the m-th call -/
def placeA (ws : List Nat) (m : Nat) : List Value := match (placeL ws 0)[m]? with | some (i, up) => [.int .i64 (i : Int), .int .i64 (up : Int)] | none => []
theorem placeA_get {ws : List Nat} {i k x : Nat} (h : ws[i]? = some x) (hk : k < x) : placeA ws (wsum ws i + k) = [.int .i64 (i : Int), .int .i64 ((8 * k : Nat) : Int)] := by
  unfold placeA
  rw [placeL_get ws 0 i k x h hk, Nat.zero_add]
theorem places_spec {ws : List Nat} (hv : Wid ws) {g : Option Nat} {cap : Nat} {k1 : Addr} {yv : Value} {J : Nat → World → Prop}
    (hrd : ∀ m W, J m W → W.cell? k1 = some (.slice (ptr g) ws.length cap) ∧ readsW W g ws)
    (hcall : ∀ m W, m < ws.sum → J m W → CallF Try.prog yv (placeA ws m) W fun e w' => e = .returned (.bool true) ∧ J (m + 1) w') (W : World) (h0 : J 0 W) :
    Calls Try.prog 89 #[yv, .pointer (some k1)] W fun e w' => (∃ v, e = .returned v) ∧ J ws.sum w' := by
  refine (pack_places_1_calls (R := fun v w' => J ws.sum w') ?_).mono fun e w' ⟨v, he, h⟩ => ⟨⟨v, he⟩, h⟩
  unfold pack_places_1
  have hs := hv.sum
  have hl := hv.1
  refine ⟨_, _, _, (hrd 0 W h0).1, ?_⟩
  refine ⟨fun vs w' => ∃ i : Nat, vs = [.int .i64 (i : Int)] ∧ i ≤ ws.length ∧ J (wsum ws i) w', fun vs _ => match vs with | [.int _ i] => (ws.length - i).toNat | _ => 0, ⟨0, rfl, by omega, h0⟩, ?_⟩
  rintro vs w1 ⟨i, rfl, hi, hJ⟩
  refine ⟨_, rfl, dec_t fun hlt => ?_, dec_f fun hge => ?_⟩
  · have hlt : i < ws.length := by omega
    have hx : ws[i]? = some ws[i] := by simp [hlt]
    obtain ⟨b, rfl, hc⟩ := (hrd _ _ hJ).2 i ws[i] hx
    have h8 := hv.at hx
    have hst := wsum_step hx
    have hmx := wsum_max (ws := ws) (i + 1)
    refine ⟨_, rfl, by omega, by omega, (ws[i] : Int), by rw [addr_add, Nat.zero_add, Nat.mul_one, Int.toNat_natCast]; exact hc, ?_⟩
    refine ⟨fun vs w' => ∃ k : Nat, vs = [.int .i64 (k : Int)] ∧ k ≤ ws[i] ∧ J (wsum ws i + k) w', fun vs _ => match vs with | [.int _ k] => (ws[i] - k).toNat | _ => 0, ⟨0, rfl, by omega, hJ⟩, ?_⟩
    rintro vs w2 ⟨k, rfl, hk, hJ2⟩
    refine ⟨_, rfl, dec_t fun hkl => ?_, dec_f fun hkg => ?_⟩
    · have hkl : k < ws[i] := by omega
      have ha : [Value.int .i64 (i : Int), .int .i64 (IntKind.i64.wrap (8 * (k : Int)))] = placeA ws (wsum ws i + k) := by
        rw [placeA_get hx hkl, wrap64 _ (by omega) (by omega)]
        push_cast; rfl
      rw [ha]
      have := hcall (wsum ws i + k) w2 (by omega) hJ2
      refine CallF.mono this fun e w3 ⟨he, hJ3⟩ => ⟨true, he, ?_, ?_⟩
      · intro h; cases h
      · intro _
        refine ⟨⟨k + 1, ?_, by omega, hJ3⟩, ?_⟩
        · rw [wrap64 _ (by omega) (by omega)]; rfl
        · show ((ws[i] : Int) - IntKind.i64.wrap ((k : Int) + 1)).toNat < ((ws[i] : Int) - (k : Int)).toNat
          rw [wrap64 _ (by omega) (by omega)]; omega
    · have hke : k = ws[i] := by omega
      subst hke
      rw [← hst] at hJ2
      refine ⟨⟨i + 1, ?_, by omega, hJ2⟩, ?_⟩
      · rw [wrap64 _ (by omega) (by omega)]; rfl
      · show ((ws.length : Int) - IntKind.i64.wrap ((i : Int) + 1)).toNat < ((ws.length : Int) - (i : Int)).toNat
        rw [wrap64 _ (by omega) (by omega)]; omega
  · have hie : i = ws.length := by omega
    subst hie
    rwa [wsum_all ws (Nat.le_refl _)] at hJ
end Go.Proofs.Ytdppllkjibfjcaa
