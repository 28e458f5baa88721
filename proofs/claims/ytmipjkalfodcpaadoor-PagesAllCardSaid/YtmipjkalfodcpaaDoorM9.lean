import Derived.Laws.Slices
import Derived.Test.YtmipjkalfodcpaaDoorM3
import Derived.Test.YtmipjkalfodcpaaDoorM4
import Derived.Test.YtmipjkalfodcpaaDoorM8
section
/-! pages, in plain words. -/
namespace Go.Proofs.YtmipjkalfodcpaaDoor
open Go.Sh Go.RowKit
set_option linter.unusedVariables false
set_option linter.unusedSimpArgs false
set_option maxRecDepth 20000
set_option maxHeartbeats 1000000
/-- a page: when, and which regions -/
structure PgV where
  ev : Nat
  bits : List UInt8
deriving DecidableEq
abbrev pgZ : PgV := ⟨0, []⟩
def magB : List UInt8 := [82, 86, 84, 66]
def encPg (p : PgV) : List UInt8 := sealB (magB ++ leB p.ev 8 ++ p.bits) 64
def encPgF (p : PgV) : List UInt8 × Int := if p.bits.length = 8 then (encPg p, 0) else ([], 1)
def decPg (b : List UInt8) : PgV × Int :=
  if b.length ≠ 64 then (pgZ, 31)
  else if (openB b).2 = false then (pgZ, 80)
  else if b.take 4 ≠ magB then (pgZ, 81)
  else if ¬ ∀ x ∈ (b.take 60).drop 20, x = 0 then (pgZ, 1)
  else (⟨leN ((b.drop 4).take 8), (b.drop 12).take 8⟩, 0)
theorem encPg_len {p : PgV} (h : p.bits.length = 8) : (encPg p).length = 64 := sealB_len (by simp [magB, leB_len, h])
theorem encPg_take {p : PgV} (h : p.bits.length = 8) : (encPg p).take 60 = magB ++ leB p.ev 8 ++ p.bits ++ List.replicate 40 0 := by
  unfold encPg sealB
  have hl : (padB (magB ++ leB p.ev 8 ++ p.bits) (64 - 4)).length = 60 := padB_len (by simp [magB, leB_len, h])
  rw [List.take_append_of_le_length (by omega), List.take_of_length_le (by omega)]
  unfold padB
  congr 2
  simp [magB, leB_len, h]
theorem encPg_open {p : PgV} (h : p.bits.length = 8) : (openB (encPg p)).2 = true := by
  unfold encPg
  rw [open_seal (by simp [magB, leB_len, h])]
theorem decPg_enc {p : PgV} (h : p.bits.length = 8) (he : p.ev < 2 ^ 64) : decPg (encPg p) = (p, 0) := by
  have hl := encPg_len h
  have ht := encPg_take h
  have pre : ∀ n m, m + n ≤ 60 → ((encPg p).drop m).take n = ((magB ++ leB p.ev 8 ++ p.bits ++ List.replicate 40 0).drop m).take n := fun n m hnm => by
    rw [← ht, List.drop_take, List.take_take, Nat.min_eq_left (by omega)]
  have l8 := leB_len p.ev 8
  have e0 : (encPg p).take 4 = magB := by
    have := pre 4 0 (by omega)
    rw [List.drop_zero, List.drop_zero] at this
    rw [this]; rfl
  have e1 : ((encPg p).drop 4).take 8 = leB p.ev 8 := by
    rw [pre 8 4 (by omega)]
    have : (magB ++ leB p.ev 8 ++ p.bits ++ List.replicate 40 0).drop 4 = leB p.ev 8 ++ (p.bits ++ List.replicate 40 0) := by
      rw [List.append_assoc, List.append_assoc]; exact List.drop_left' rfl
    rw [this]; exact List.take_left' l8
  have e2 : ((encPg p).drop 12).take 8 = p.bits := by
    rw [pre 8 12 (by omega)]
    have : (magB ++ leB p.ev 8 ++ p.bits ++ List.replicate 40 0).drop 12 = p.bits ++ List.replicate 40 0 := by
      rw [List.append_assoc]; exact List.drop_left' (by simp [magB, l8])
    rw [this]; exact List.take_left' h
  have e3 : ((encPg p).take 60).drop 20 = List.replicate 40 0 := by
    rw [ht]; exact List.drop_left' (by simp [magB, l8, h])
  unfold decPg
  rw [if_neg (by omega), if_neg (by rw [encPg_open h]; decide), if_neg (fun hn => hn e0), if_neg (fun hn => hn (by rw [e3]; intro x hx; exact List.eq_of_mem_replicate hx)), e1, e2, leN_leB 8 p.ev (by simpa using he)]
theorem decPg_ev (b : List UInt8) : (decPg b).1.ev < 2 ^ 64 := by
  unfold decPg
  split
  · decide
  · split
    · decide
    · split
      · decide
      · split
        · decide
        · have := leN_lt ((b.drop 4).take 8)
          have h8 : ((b.drop 4).take 8).length ≤ 8 := by rw [List.length_take]; omega
          have : 256 ^ ((b.drop 4).take 8).length ≤ 256 ^ 8 := Nat.pow_le_pow_right (by decide) h8
          show leN _ < 2 ^ 64
          have e : (256 : Nat) ^ 8 = 2 ^ 64 := by decide
          omega
theorem decPg_bits {b : List UInt8} (h : (decPg b).2 = 0) : (decPg b).1.bits.length = 8 := by
  unfold decPg at h ⊢
  split at h
  · cases h
  · rename_i hl
    rw [if_neg hl]
    split at h
    · cases h
    · rename_i h1
      rw [if_neg h1]
      split at h
      · cases h
      · rename_i h2
        rw [if_neg h2]
        split at h
        · cases h
        · rename_i h3
          rw [if_neg h3]
          show ((b.drop 12).take 8).length = 8
          rw [List.length_take, List.length_drop]; omega
theorem decPg_bad {b : List UInt8} (h : (decPg b).2 ≠ 0) : (decPg b).1 = pgZ := by
  unfold decPg at h ⊢
  split
  · rfl
  · rename_i hl
    rw [if_neg hl] at h
    split
    · rfl
    · rename_i h1
      rw [if_neg h1] at h
      split
      · rfl
      · rename_i h2
        rw [if_neg h2] at h
        split
        · rfl
        · rename_i h3
          rw [if_neg h3] at h
          exact absurd rfl h
/-- what Save makes of a drive -/
def savePg (a : AD) (p : PgV) : AD × Int :=
  if p.bits.length ≠ 8 then (a, 1)
  else if a.put 2 (strB (encPg p)) ≠ 0 then (a, a.put 2 (strB (encPg p)))
  else ((a.write 2 (strB (encPg p))).flush, (a.write 2 (strB (encPg p))).flush1)
def loadPg (a : AD) : PgV × Int := if (a.read 2).2 ≠ 0 then (pgZ, (a.read 2).2) else decPg (a.read 2).1.data.toList
end Go.Proofs.YtmipjkalfodcpaaDoor
end
section
/-! pack: Size, Fits, places. -/
namespace Go.Proofs.YtmipjkalfodcpaaDoor
open Go.Sh Go.RowKit
set_option linter.unusedVariables false
set_option maxRecDepth 20000
set_option maxHeartbeats 1000000
def ints (ws : List Nat) : List Value := ws.map fun (x : Nat) => .int .i64 (x : Int)
def u64s (ns : List Nat) : List Value := ns.map fun (x : Nat) => .int .u64 (x : Int)
theorem ints_get {ws : List Nat} {i x : Nat} (h : ws[i]? = some x) : (ints ws)[i]? = some (.int .i64 (x : Int)) := by simp [ints, h]
theorem u64s_get {ws : List Nat} {i x : Nat} (h : ws[i]? = some x) : (u64s ws)[i]? = some (.int .u64 (x : Int)) := by simp [u64s, h]
/-- widths that may be -/
def Wid (ws : List Nat) : Prop := ws.length ≤ 64 ∧ ∀ x ∈ ws, 1 ≤ x ∧ x ≤ 8
theorem Wid.at {ws : List Nat} (h : Wid ws) {i x : Nat} (hi : ws[i]? = some x) : 1 ≤ x ∧ x ≤ 8 := h.2 x (List.mem_of_getElem? hi)
theorem widsum_le : ∀ (ws : List Nat), (∀ x ∈ ws, 1 ≤ x ∧ x ≤ 8) → ws.sum ≤ 8 * ws.length
  | [], _ => by simp
  | w :: ws, h => by
    have := widsum_le ws fun x hx => h x (List.mem_cons_of_mem _ hx)
    have := h w List.mem_cons_self
    simp only [List.sum_cons, List.length_cons]; omega
theorem Wid.sum {ws : List Nat} (h : Wid ws) : ws.sum ≤ 512 := by
  have h1 := widsum_le ws h.2
  have h2 := h.1
  omega
/-- a row of widths, to be read in this world -/
def readsW (w : World) (g : Option Nat) (ws : List Nat) : Prop := ∀ (j x : Nat), ws[j]? = some x → ∃ b, g = some b ∧ w.cell? ⟨b, j, none⟩ = some (.int .i64 (x : Int))
theorem T.readsW {F : List Nat} {w0 w : World} {Γ : List A} {g : Option Nat} {n cap : Nat} {ws : List Nat} (hT : T F w0 w Γ) (hm : rowP 3 1 g n cap (ints ws) ∈ Γ) : readsW w g ws := by
  intro j x hx
  have hs := hT.says hm
  have hl : ws.length = n := by have := rowP.len hs; simpa [ints] using this
  have hj := (List.getElem?_eq_some_iff.1 hx).1
  obtain ⟨b, rfl⟩ := rowP.pos hs (by omega)
  exact ⟨b, rfl, rowP.cell hs (ints_get hx)⟩
theorem size_spec {ws : List Nat} (hv : Wid ws) {w : World} {g : Option Nat} {cap : Nat} (hm : readsW w g ws) : Ret Tryd.prog 34 #[.slice (ptr g) ws.length cap] w (.tuple #[.int .i64 (ws.sum : Int), .int .i64 0]) := by
  refine ret_of (pack_Size_calls ?_)
  unfold pack_Size
  have hs := hv.sum
  have hl := hv.1
  refine ⟨fun vs w' => w' = w ∧ ∃ i : Nat, vs = [.int .i64 (wsum ws i : Int), .int .i64 (i : Int)] ∧ i ≤ ws.length, fun vs _ => match vs with | [_, .int _ i] => (ws.length - i).toNat | _ => 0, ⟨rfl, 0, rfl, by omega⟩, ?_⟩
  rintro vs w1 ⟨rfl, i, rfl, hi⟩
  refine ⟨_, _, rfl, dec_t fun hlt => ?_, dec_f fun hge => ?_⟩
  · have hlt : i < ws.length := by omega
    obtain ⟨b, rfl, hc⟩ := hm i ws[i] (by simp [hlt])
    have hx := hv.at (i := i) (x := ws[i]) (by simp [hlt])
    have hst := wsum_step (ws := ws) (i := i) (x := ws[i]) (by simp [hlt])
    have hmx := wsum_max (ws := ws) (i + 1)
    refine ⟨_, rfl, by omega, by omega, (ws[i] : Int), by rw [addr_add, Nat.zero_add, Nat.mul_one, Int.toNat_natCast]; exact hc, no (decide_eq_false (by omega)) (no (decide_eq_false (by omega)) ⟨⟨rfl, i + 1, ?_, by omega⟩, ?_⟩)⟩
    · rw [wrap64 _ (by omega) (by omega), wrap64 _ (by omega) (by omega), hst]; simp
    · show ((ws.length : Int) - IntKind.i64.wrap ((i : Int) + 1)).toNat < ((ws.length : Int) - (i : Int)).toNat
      rw [wrap64 _ (by omega) (by omega)]; omega
  · have hie : i = ws.length := by omega
    subst hie
    rw [wsum_all ws (Nat.le_refl _)]
    exact no (decide_eq_false (by omega)) ⟨rfl, Ext.refl _⟩
theorem fits_spec (n x : Nat) (hn : n < 256 ^ x) (hx : 1 ≤ x ∧ x ≤ 8) (w : World) : Ret Tryd.prog 35 #[.int .u64 (n : Int), .int .i64 (x : Int)] w (.bool true) := by
  refine ret_of (pack_Fits_calls ?_)
  unfold pack_Fits
  refine ⟨fun _ => ⟨rfl, Ext.refl w⟩, fun h8 => yes (decide_eq_true (by omega)) ?_⟩
  have h8 : (x : Int) ≠ 8 := by simpa using h8
  refine yes (decide_eq_true (by omega)) ⟨by rw [wrap64 _ (by omega) (by omega)]; omega, ?_, Ext.refl w⟩
  rw [wrap64 _ (by omega) (by omega), show (8 * (x : Int)).toNat = 8 * x by omega, Nat.min_eq_left (by omega), Int.fdiv_eq_ediv_of_nonneg _ (Int.le_of_lt (Int.pow_pos (by decide)))]
  have h1 : n / 2 ^ (8 * x) = 0 := by
    rw [Nat.div_eq_of_lt]
    rw [Nat.pow_mul]; exact hn
  have h2 : ((n : Int) / 2 ^ (8 * x)) = ((n / 2 ^ (8 * x) : Nat) : Int) := by push_cast; rfl
  rw [h2, h1]
  rfl
theorem fits_not (n x : Nat) (hn : ¬ n < 256 ^ x) (hx : 1 ≤ x ∧ x ≤ 7) (w : World) : Ret Tryd.prog 35 #[.int .u64 (n : Int), .int .i64 (x : Int)] w (.bool false) := by
  refine ret_of (pack_Fits_calls ?_)
  unfold pack_Fits
  refine no (by simp; omega) (yes (decide_eq_true (by omega)) (yes (decide_eq_true (by omega)) ⟨by rw [wrap64 _ (by omega) (by omega)]; omega, ?_, Ext.refl w⟩))
  rw [wrap64 _ (by omega) (by omega), show (8 * (x : Int)).toNat = 8 * x by omega, Nat.min_eq_left (by omega), Int.fdiv_eq_ediv_of_nonneg _ (Int.le_of_lt (Int.pow_pos (by decide)))]
  have h1 : n / 2 ^ (8 * x) ≠ 0 := by
    intro h
    have := (Nat.div_eq_zero_iff.1 h).resolve_left (by have := Nat.two_pow_pos (8 * x); omega)
    rw [Nat.pow_mul] at this
    exact hn this
  have h2 : ((n : Int) / 2 ^ (8 * x)) = ((n / 2 ^ (8 * x) : Nat) : Int) := by push_cast; rfl
  rw [h2]
  have : (((n / 2 ^ (8 * x) : Nat) : Int) == 0) = false := by simp; omega
  rw [this]
/-- the m-th place: whose it is, how far up -/
def placeL : List Nat → Nat → List (Nat × Nat)
  | [], _ => []
  | w :: ws, i => ((List.range w).map fun k => (i, 8 * k)) ++ placeL ws (i + 1)
theorem placeL_len : ∀ (ws : List Nat) (i : Nat), (placeL ws i).length = ws.sum
  | [], _ => rfl
  | w :: ws, i => by simp [placeL, placeL_len ws (i + 1)]
theorem placeL_get : ∀ (ws : List Nat) (o i k x : Nat), ws[i]? = some x → k < x → (placeL ws o)[wsum ws i + k]? = some (o + i, 8 * k)
  | [], _, _, _, _, h, _ => by simp at h
  | w :: ws, o, 0, k, x, h, hk => by
    simp only [List.getElem?_cons_zero, Option.some.injEq] at h
    subst h
    simp only [placeL, wsum_zero, Nat.zero_add]
    rw [List.getElem?_append_left (by simpa using hk)]
    simp [hk]
  | w :: ws, o, i + 1, k, x, h, hk => by
    simp only [List.getElem?_cons_succ] at h
    simp only [placeL, wsum_cons]
    rw [List.getElem?_append_right (by simp; omega)]
    simp only [List.length_map, List.length_range]
    rw [show w + wsum ws i + k - w = wsum ws i + k by omega, placeL_get ws (o + 1) i k x h hk]
    congr 2; omega
theorem placeL_inv : ∀ (ws : List Nat) (o m : Nat), m < ws.sum → ∃ i k x, ws[i]? = some x ∧ k < x ∧ m = wsum ws i + k
  | [], _, m, h => by simp at h
  | w :: ws, o, m, h => by
    by_cases hm : m < w
    · exact ⟨0, m, w, rfl, hm, by simp [wsum]⟩
    · simp only [List.sum_cons] at h
      obtain ⟨i, k, x, h1, h2, h3⟩ := placeL_inv ws o (m - w) (by omega)
      exact ⟨i + 1, k, x, by simpa using h1, h2, by rw [wsum_cons]; omega⟩
/-- the arguments of the m-th call -/
def placeA (ws : List Nat) (m : Nat) : List Value := match (placeL ws 0)[m]? with | some (i, up) => [.int .i64 (i : Int), .int .i64 (up : Int)] | none => []
theorem placeA_get {ws : List Nat} {i k x : Nat} (h : ws[i]? = some x) (hk : k < x) : placeA ws (wsum ws i + k) = [.int .i64 (i : Int), .int .i64 ((8 * k : Nat) : Int)] := by
  unfold placeA
  rw [placeL_get ws 0 i k x h hk, Nat.zero_add]
theorem places_spec {ws : List Nat} (hv : Wid ws) {g : Option Nat} {cap : Nat} {k1 : Addr} {yv : Value} {J : Nat → World → Prop}
    (hrd : ∀ m W, J m W → W.cell? k1 = some (.slice (ptr g) ws.length cap) ∧ readsW W g ws)
    (hcall : ∀ m W, m < ws.sum → J m W → CallF Tryd.prog yv (placeA ws m) W fun e w' => e = .returned (.bool true) ∧ J (m + 1) w') (W : World) (h0 : J 0 W) :
    Calls Tryd.prog 58 #[yv, .pointer (some k1)] W fun e w' => (∃ v, e = .returned v) ∧ J ws.sum w' := by
  refine (pack_places_1_calls (R := fun v w' => J ws.sum w') ?_).mono fun e w' ⟨v, he, h⟩ => ⟨⟨v, he⟩, h⟩
  unfold pack_places_1
  have hs := hv.sum
  have hl := hv.1
  refine ⟨_, _, _, (hrd 0 W h0).1, ?_⟩
  refine ⟨fun vs w' => ∃ i : Nat, vs = [.int .i64 (i : Int)] ∧ i ≤ ws.length ∧ J (wsum ws i) w', fun vs _ => match vs with | [.int _ i] => (ws.length - i).toNat | _ => 0, ⟨0, rfl, by omega, h0⟩, ?_⟩
  rintro vs w1 ⟨i, rfl, hi, hJ⟩
  refine ⟨_, rfl, dec_t fun hlt => ?_, dec_f fun hge => ?_⟩
  · have hlt : i < ws.length := by omega
    have hx : ws[i]? = some ws[i] := by simp [hlt]
    obtain ⟨b, rfl, hc⟩ := (hrd _ _ hJ).2 i ws[i] hx
    have h8 := hv.at hx
    have hst := wsum_step hx
    have hmx := wsum_max (ws := ws) (i + 1)
    refine ⟨_, rfl, by omega, by omega, (ws[i] : Int), by rw [addr_add, Nat.zero_add, Nat.mul_one, Int.toNat_natCast]; exact hc, ?_⟩
    refine ⟨fun vs w' => ∃ k : Nat, vs = [.int .i64 (k : Int)] ∧ k ≤ ws[i] ∧ J (wsum ws i + k) w', fun vs _ => match vs with | [.int _ k] => (ws[i] - k).toNat | _ => 0, ⟨0, rfl, by omega, hJ⟩, ?_⟩
    rintro vs w2 ⟨k, rfl, hk, hJ2⟩
    refine ⟨_, rfl, dec_t fun hkl => ?_, dec_f fun hkg => ?_⟩
    · have hkl : k < ws[i] := by omega
      have ha : [Value.int .i64 (i : Int), .int .i64 (IntKind.i64.wrap (8 * (k : Int)))] = placeA ws (wsum ws i + k) := by
        rw [placeA_get hx hkl, wrap64 _ (by omega) (by omega)]
        push_cast; rfl
      rw [ha]
      have := hcall (wsum ws i + k) w2 (by omega) hJ2
      refine CallF.mono this fun e w3 ⟨he, hJ3⟩ => ⟨true, he, ?_, ?_⟩
      · intro h; cases h
      · intro _
        refine ⟨⟨k + 1, ?_, by omega, hJ3⟩, ?_⟩
        · rw [wrap64 _ (by omega) (by omega)]; rfl
        · show ((ws[i] : Int) - IntKind.i64.wrap ((k : Int) + 1)).toNat < ((ws[i] : Int) - (k : Int)).toNat
          rw [wrap64 _ (by omega) (by omega)]; omega
    · have hke : k = ws[i] := by omega
      subst hke
      rw [← hst] at hJ2
      refine ⟨⟨i + 1, ?_, by omega, hJ2⟩, ?_⟩
      · rw [wrap64 _ (by omega) (by omega)]; rfl
      · show ((ws.length : Int) - IntKind.i64.wrap ((i : Int) + 1)).toNat < ((ws.length : Int) - (i : Int)).toNat
        rw [wrap64 _ (by omega) (by omega)]; omega
  · have hie : i = ws.length := by omega
    subst hie
    rwa [wsum_all ws (Nat.le_refl _)] at hJ
end Go.Proofs.YtmipjkalfodcpaaDoor
end
section
/-! pack: Encode. -/
namespace Go.Proofs.YtmipjkalfodcpaaDoor
open Go.Sh Go.RowKit
set_option linter.unusedVariables false
set_option maxRecDepth 20000
set_option maxHeartbeats 1000000
theorem u64s_len (ns : List Nat) : (u64s ns).length = ns.length := List.length_map ..
theorem ints_len (ns : List Nat) : (ints ns).length = ns.length := List.length_map ..
theorem encP_take_step {ns ws : List Nat} {i k v x : Nat} (hw : ws[i]? = some x) (hn : ns[i]? = some v) (hk : k < x) : (encP ns ws).take (wsum ws i + k + 1) = (encP ns ws).take (wsum ws i + k) ++ [UInt8.ofNat (v / 2 ^ (8 * k))] := by
  rw [List.take_add_one, encP_get ns ws i k v x hw hn hk]; rfl
theorem encode_spec {ns ws : List Nat} (hv : Wid ws) (hl : ns.length = ws.length) (hf : ∀ (i n x : Nat), ns[i]? = some n → ws[i]? = some x → n < 256 ^ x) {F : List Nat} {w0 w : World} {Γ : List A} (hT : T F w0 w Γ) {g1 g2 : Option Nat} {n1 n2 c1 c2 : Nat} (hn1 : n1 = ns.length) (hn2 : n2 = ws.length)
    (hm1 : rowP 22 1 g1 n1 c1 (u64s ns) ∈ Γ) (hm2 : rowP 3 1 g2 n2 c2 (ints ws) ∈ Γ) :
    Calls Tryd.prog 18 #[.slice (ptr g1) n1 c1, .slice (ptr g2) n2 c2] w fun e w' => e = .returned (.tuple #[.string (strB (encP ns ws)), .int .i64 0]) ∧ T F w0 w' Γ := by
  subst hn1; subst hn2
  refine (pack_Encode_calls (R := fun v w' => v = .tuple #[.string (strB (encP ns ws)), .int .i64 0] ∧ T F w0 w' Γ) ?_).mono fun e w' ⟨v, he, hv, h⟩ => ⟨by rw [he, hv], h⟩
  unfold pack_Encode
  have hs := hv.sum
  have hw64 := hv.1
  refine Alloc.t hT fun k2 w1 h1 => ?_
  refine (size_spec hv (T.readsW h1 (List.mem_cons_of_mem _ hm2))).mono fun e w2 ⟨he, hx⟩ => ⟨_, _, he, no rfl ?_⟩
  have h2 := h1.quiet hx
  refine ⟨_, _, _, h2.ld List.mem_cons_self rfl, no (by rw [hl]; simp) ?_⟩
  refine ⟨fun vs w' => ∃ i : Nat, vs = [.string (ByteArray.mk #[]), .int .i64 0, .int .i64 (i : Int)] ∧ i ≤ ws.length ∧ T F w0 w' (blk k2 #[.slice (ptr g1) ns.length c1] 37 :: Γ), fun vs _ => match vs with | [_, _, .int _ i] => (ws.length - i).toNat | _ => 0, ⟨0, rfl, by omega, h2⟩, ?_⟩
  rintro vs w3 ⟨i, rfl, hi, h3⟩
  refine ⟨_, _, _, rfl, dec_t fun hlt => ?_, dec_f fun hge => ?_⟩
  · have hlt : i < ws.length := by omega
    have hx : ws[i]? = some ws[i] := by simp [hlt]
    have hn : ns[i]? = some (ns[i]'(by omega)) := by simp [hl, hlt]
    obtain ⟨b2, rfl, _, hc2⟩ := T.cell1 h3 (List.mem_cons_of_mem _ hm2) (ints_get hx)
    obtain ⟨b1, rfl, _, hc1⟩ := T.cell1 h3 (List.mem_cons_of_mem _ hm1) (u64s_get hn)
    refine ⟨_, rfl, by omega, by omega, _, by rw [Int.toNat_natCast]; exact hc2, _, _, _, h3.ld List.mem_cons_self rfl, _, rfl, by omega, by omega, _, by rw [Int.toNat_natCast]; exact hc1, ?_⟩
    refine (fits_spec _ _ (hf i _ _ hn hx) (hv.at hx) w3).mono fun e w4 ⟨he, hx4⟩ => ⟨_, he, fun h => (by cases h), fun _ => ⟨⟨i + 1, ?_, by omega, h3.quiet hx4⟩, ?_⟩⟩
    · rw [wrap64 _ (by omega) (by omega)]; rfl
    · show ((ws.length : Int) - IntKind.i64.wrap ((i : Int) + 1)).toNat < ((ws.length : Int) - (i : Int)).toNat
      rw [wrap64 _ (by omega) (by omega)]; omega
  · obtain ⟨k4, w5, hmk, h5⟩ := make_t (P := Tryd.prog) (t := 71) (e := 5) (i := Tryd.t5) (z := .int .u8 0) (kl := .i64) (kc := .i64) (n := 0) (c := (ws.sum : Int)) (by kernel_rfl) (by kernel_rfl) (by kernel_rfl) (by kernel_rfl) (by rfl) (by kernel_rfl) (by omega) (by omega) (by omega) h3
    simp only [Int.toNat_zero, Int.toNat_natCast] at hmk h5
    refine ⟨_, _, _, w5, hmk, ?_⟩
    refine Alloc.t h5 fun k10 w6 h6 => St.t h6 .head (by simp) (by rfl) rfl fun w7 h7 => ?_
    refine (pack_places_calls (R := fun v w' => ∃ k1, v = .func (.func 58) #[] #[.pointer (some ⟨k1, 0, none⟩)] ∧ T F w0 w' (blk k1 #[.slice (ptr g2) ws.length c2] 52 :: blk k10 #[.slice (ptr (some k4)) 0 ws.sum] 71 :: rowP 5 1 (some k4) 0 ws.sum [] :: blk k2 #[.slice (ptr g1) ns.length c1] 37 :: Γ)) ?_).mono ?_
    · unfold pack_places
      exact Alloc.t h7 fun k1 w8 h8 => ⟨k1, rfl, h8⟩
    · rintro e w8 ⟨v, he, k1, rfl, h8⟩
      refine ⟨_, he, ?_⟩
      refine RangeP.t (by kernel_rfl) h8 (N := ws.sum) (arg := placeA ws)
        (Inv := fun m Γm => ∃ g cap, Γm = blk k1 #[.slice (ptr g2) ws.length c2] 52 :: blk k10 #[.slice (ptr g) m cap] 71 :: rowP 5 1 g m cap (bvals ((encP ns ws).take m)) :: blk k2 #[.slice (ptr g1) ns.length c1] 37 :: Γ)
        ⟨some k4, ws.sum, rfl⟩ ?_ ?_ ?_
      · intro yv J hJ hc W hW
        refine places_spec hv (J := J) (g := g2) (cap := c2) (fun m W hm => ?_) hc W hW
        obtain ⟨Γk, x, y, ⟨g, cap, rfl⟩, h⟩ := hJ m W hm
        exact ⟨h.ld (List.mem_cons_of_mem _ (List.mem_cons_of_mem _ List.mem_cons_self)) rfl, T.readsW h (List.mem_cons_of_mem _ (List.mem_cons_of_mem _ (List.mem_cons_of_mem _ (List.mem_cons_of_mem _ (List.mem_cons_of_mem _ (List.mem_cons_of_mem _ hm2))))))⟩
      · rintro obf l d m Γk W Φ hm ⟨g, cap, rfl⟩ hW hΦ
        obtain ⟨i, k, x, hx, hk, rfl⟩ := placeL_inv ws 0 m hm
        have h8 := hv.at hx
        have hil : i < ws.length := (List.getElem?_eq_some_iff.1 hx).1
        have hn : ns[i]? = some (ns[i]'(by omega)) := by simp [hl, hil]
        generalize ns[i]'(by omega) = v at hn
        rw [placeA_get hx hk]
        refine ⟨_, _, rfl, ?_⟩
        refine RoundP.t hW (G := fun Γ' => ∃ Γ'', Γ' = ob d (.deferred (some [])) :: Γ'' ∧ ∃ g cap, Γ'' = blk k1 #[.slice (ptr g2) ws.length c2] 52 :: blk k10 #[.slice (ptr g) (wsum ws i + k + 1) cap] 71 :: rowP 5 1 g (wsum ws i + k + 1) cap (bvals ((encP ns ws).take (wsum ws i + k + 1))) :: blk k2 #[.slice (ptr g1) ns.length c1] 37 :: Γ) ?_ ?_
        · rintro Γ' w' ⟨Γ'', rfl, hi'⟩ h'
          exact hΦ Γ'' w' hi' h'
        · intro K X R w9 h9 hK
          obtain ⟨b1, rfl, _, _⟩ := T.cell1 h9 (List.mem_cons_of_mem _ (List.mem_cons_of_mem _ (List.mem_cons_of_mem _ (List.mem_cons_of_mem _ (List.mem_cons_of_mem _ (List.mem_cons_of_mem _ hm1)))))) (u64s_get hn)
          have hD : ∀ {w : World} {Γ' : List A}, T F w0 w Γ' → blk k10 #[.slice (ptr g) (wsum ws i + k) cap] 71 ∈ Γ' → blk k2 #[.slice (ptr (some b1)) ns.length c1] 37 ∈ Γ' → rowP 22 1 (some b1) ns.length c1 (u64s ns) ∈ Γ' →
              (w.cell? ⟨k10, 0, none⟩ = some (.slice (ptr g) (wsum ws i + k) cap) ∧ w.cell? ⟨k2, 0, none⟩ = some (.slice (ptr (some b1)) ns.length c1) ∧ w.cell? (Addr.add ⟨b1, 0, none⟩ (i * 1)) = some (.int .u64 (v : Int))) := by
            intro w Γ' h m1 m2 m3
            obtain ⟨b', hb', _, hc⟩ := T.cell1 h m3 (u64s_get hn)
            cases hb'
            exact ⟨h.ld m1 rfl, h.ld m2 rfl, hc⟩
          have hbyte : IntKind.u8.wrap (Int.fdiv (v : Int) (2 ^ (min ((8 * k : Nat) : Int).toNat 64))) = ((UInt8.ofNat (v / 2 ^ (8 * k))).toNat : Int) := by
            rw [Int.toNat_natCast, Nat.min_eq_left (by omega), Int.fdiv_eq_ediv_of_nonneg _ (Int.le_of_lt (Int.pow_pos (by decide))), wrap8]
            have : ((v : Int) / 2 ^ (8 * k)) = ((v / 2 ^ (8 * k) : Nat) : Int) := by push_cast; rfl
            rw [this]
            simp
          have hmx := wsum_max (ws := ws) (i + 1)
          have hst := wsum_step hx
          refine ⟨fun w => w.cell? ⟨k10, 0, none⟩ = some (.slice (ptr g) (wsum ws i + k) cap) ∧ w.cell? ⟨k2, 0, none⟩ = some (.slice (ptr (some b1)) ns.length c1) ∧ w.cell? (Addr.add ⟨b1, 0, none⟩ (i * 1)) = some (.int .u64 (v : Int)), hD h9.drew (by repeat (first | exact List.Mem.head _ | refine List.Mem.tail _ ?_)) (by repeat (first | exact List.Mem.head _ | refine List.Mem.tail _ ?_)) (by repeat (first | exact hm1 | refine List.mem_cons_of_mem _ ?_)),
            _, _, _, fun w h => h.1, _, _, _, fun w h => h.2.1, _, rfl, by omega, by omega, _, fun w h => by rw [Int.toNat_natCast]; exact h.2.2, by omega, ?_⟩
          rw [hbyte]
          refine Alloc.t h9.drew fun k57 w10 h10 => ⟨hD h10 (by repeat (first | exact List.Mem.head _ | refine List.Mem.tail _ ?_)) (by repeat (first | exact List.Mem.head _ | refine List.Mem.tail _ ?_)) (by repeat (first | exact hm1 | refine List.mem_cons_of_mem _ ?_)), ?_⟩
          obtain ⟨g', cap', w11, hr, h11⟩ := append_t (P := Tryd.prog) (t := 71) (ty := 71) (e := 5) (i := Tryd.t5) (z := .int .u8 0) (size := 1) #[false, false] (by kernel_rfl) (by kernel_rfl) (by kernel_rfl) (by kernel_rfl) (by rfl)
            h10 (.tail (.tail (.tail (.tail (.tail .head))))) (a := ⟨k57, 0, none⟩) (m := 1) (c := 1) (news := bvals [UInt8.ofNat (v / 2 ^ (8 * k))]) rfl (fun j u hu => by
              rw [addr_add, Nat.zero_add]
              exact h10.ld (by repeat (first | exact List.Mem.head _ | refine List.Mem.tail _ ?_)) (by simpa [bvals] using hu)) (bvals_one _) (by simp only [maxLen]; omega)
            (by have : (Tryd.t5).bytes = 1 := by kernel_rfl
                rw [this]; omega)
          rw [bvals_append, ← encP_take_step hx hn hk] at h11
          refine ⟨_, _, _, w11, hr, hD h11 (by repeat (first | exact List.Mem.head _ | refine List.Mem.tail _ ?_)) (by repeat (first | exact List.Mem.head _ | refine List.Mem.tail _ ?_)) (by repeat (first | exact hm1 | refine List.mem_cons_of_mem _ ?_)), ?_⟩
          refine St.t h11 (by repeat (first | exact Turn.head | apply Turn.tail)) (by simp) (by rfl) rfl fun w12 h12 => hK (ob d (.deferred (some [])) :: _) w12 ⟨_, rfl, g', cap', rfl⟩ ?_
          exact (T.dropAt h12 (.tail .head)).swap (Pick.perm (.tail (.tail (.tail (.tail .head))))).symm
      · rintro d Γ' w' ⟨g, cap, rfl⟩ h'
        rw [List.take_of_length_le (by rw [encP_len ns ws hl]; exact Nat.le_refl _)] at h'
        refine ⟨_, _, _, h'.ld (by repeat (first | exact List.Mem.head _ | refine List.Mem.tail _ ?_)) rfl, _, w', row_string h' (by repeat (first | exact List.Mem.head _ | refine List.Mem.tail _ ?_)), ?_⟩
        exact shut_mark (Q := fun w2 => _ = _ ∧ T F w0 w2 Γ) h' fun w2 h2 => ⟨rfl, h2.drop.drop.drop.drop⟩
end Go.Proofs.YtmipjkalfodcpaaDoor
end
section
/-! pack: Decode. -/
namespace Go.Proofs.YtmipjkalfodcpaaDoor
open Go.Sh Go.RowKit
set_option linter.unusedVariables false
set_option maxRecDepth 20000
set_option maxHeartbeats 1000000
def curL (s : List UInt8) (ws : List Nat) (m : Nat) : List Nat := (List.range ws.length).map (curP s ws m)
theorem curL_len (s : List UInt8) (ws : List Nat) (m : Nat) : (curL s ws m).length = ws.length := by simp [curL]
theorem curL_get (s : List UInt8) (ws : List Nat) (m : Nat) {i : Nat} (hi : i < ws.length) : (curL s ws m)[i]? = some (curP s ws m i) := by simp [curL, hi]
theorem curL_zero (s : List UInt8) (ws : List Nat) : u64s (curL s ws 0) = List.replicate ws.length (Value.int .u64 0) := by
  unfold u64s curL
  rw [List.map_map]
  apply List.ext_getElem?
  intro j
  rw [List.getElem?_replicate]
  by_cases hj : j < ws.length
  · simp [hj, curP_zero]
  · simp [hj]
theorem curL_all (s : List UInt8) (ws : List Nat) : curL s ws ws.sum = decP s ws := by
  apply List.ext_getElem?
  intro j
  by_cases hj : j < ws.length
  · have h : ws[j]? = some ws[j] := by simp [hj]
    rw [curL_get s ws _ hj, decP_get ws s j _ h, curP_all s h]
  · rw [List.getElem?_eq_none (by rw [curL_len]; omega), List.getElem?_eq_none (by rw [decP_len]; omega)]
theorem curL_step (s : List UInt8) {ws : List Nat} {i k x : Nat} (h : ws[i]? = some x) (hk : k < x) : (u64s (curL s ws (wsum ws i + k))).set i (.int .u64 (curP s ws (wsum ws i + k + 1) i : Int)) = u64s (curL s ws (wsum ws i + k + 1)) := by
  have hi := (List.getElem?_eq_some_iff.1 h).1
  apply List.ext_getElem?
  intro j
  rw [List.getElem?_set]
  by_cases hj : j < ws.length
  · rw [u64s_get (curL_get s ws (wsum ws i + k + 1) hj)]
    split
    · rename_i e; subst e
      rw [if_pos (by rw [u64s_len, curL_len]; exact hi)]
    · rename_i e
      rw [u64s_get (curL_get s ws (wsum ws i + k) hj), curP_other s h hk (fun e' => e e'.symm)]
  · rw [if_neg (by omega), List.getElem?_eq_none (by rw [u64s_len, curL_len]; omega), List.getElem?_eq_none (by rw [u64s_len, curL_len]; omega)]
theorem ints_take (ws : List Nat) (n x : Nat) (h : ws[n]? = some x) : ints (ws.take n) ++ [.int .i64 (x : Int)] = ints (ws.take (n + 1)) := by
  unfold ints
  rw [List.take_add_one, h]
  simp
theorem u64s_take (ws : List Nat) (n x : Nat) (h : ws[n]? = some x) : u64s (ws.take n) ++ [.int .u64 (x : Int)] = u64s (ws.take (n + 1)) := by
  unfold u64s
  rw [List.take_add_one, h]
  simp
theorem decode_spec {ws : List Nat} (hv : Wid ws) {s : ByteArray} (hsz : s.size = ws.sum) {F : List Nat} {w0 w : World} {Γ : List A} (hT : T F w0 w Γ) {g2 : Option Nat} {n2 c2 : Nat} (hn2 : n2 = ws.length)
    (hm2 : rowP 3 1 g2 n2 c2 (ints ws) ∈ Γ) :
    Calls Tryd.prog 25 #[.string s, .slice (ptr g2) n2 c2] w fun e w' => ∃ b, e = .returned (.tuple #[.slice (ptr (some b)) ws.length ws.length, .int .i64 0]) ∧ T F w0 w' (rowP 22 1 (some b) ws.length ws.length (u64s (decP s.data.toList ws)) :: Γ) := by
  subst hn2
  refine (pack_Decode_calls (R := fun v w' => ∃ b, v = .tuple #[.slice (ptr (some b)) ws.length ws.length, .int .i64 0] ∧ T F w0 w' (rowP 22 1 (some b) ws.length ws.length (u64s (decP s.data.toList ws)) :: Γ)) ?_).mono fun e w' ⟨v, he, b, hv, h⟩ => ⟨b, by rw [he, hv], h⟩
  unfold pack_Decode
  have hs := hv.sum
  have hw64 := hv.1
  have hlen : s.data.toList.length = ws.sum := by rw [Array.length_toList]; exact hsz
  refine Alloc.t hT fun k2 w1 h1 => ?_
  refine (size_spec hv (T.readsW h1 (List.mem_cons_of_mem _ hm2))).mono fun e w2 ⟨he, hx⟩ => ⟨_, _, he, no rfl ?_⟩
  have h2 := h1.quiet hx
  refine ⟨_, h2.ld List.mem_cons_self rfl, no (by rw [hsz]; simp) ?_⟩
  obtain ⟨k5, w3, hmk, h3⟩ := make_t (P := Tryd.prog) (t := 37) (e := 22) (i := Tryd.t22) (z := .int .u64 0) (kl := .i64) (kc := .i64) (n := (ws.length : Int)) (c := (ws.length : Int)) (by kernel_rfl) (by kernel_rfl) (by kernel_rfl) (by kernel_rfl) (by rfl) (by kernel_rfl) (by omega) (by omega) (by omega) h2
  simp only [Int.toNat_natCast] at hmk h3
  have h3 : T F w0 w3 (rowP 22 1 (some k5) ws.length ws.length (u64s (curL s.data.toList ws 0)) :: blk k2 #[.string (strB (s.data.toList.drop 0))] 9 :: Γ) := by
    rw [curL_zero, List.drop_zero, strB_list]; exact h3
  refine ⟨_, _, _, w3, hmk, ?_⟩
  refine Alloc.t h3 fun k8 w4 h4 => St.t h4 .head (by simp) (by rfl) rfl fun w5 h5 => ?_
  refine (pack_places_calls (R := fun v w' => ∃ k1, v = .func (.func 58) #[] #[.pointer (some ⟨k1, 0, none⟩)] ∧ T F w0 w' (blk k1 #[.slice (ptr g2) ws.length c2] 52 :: blk k8 #[.slice (ptr (some k5)) ws.length ws.length] 37 :: rowP 22 1 (some k5) ws.length ws.length (u64s (curL s.data.toList ws 0)) :: blk k2 #[.string (strB (s.data.toList.drop 0))] 9 :: Γ)) ?_).mono ?_
  · unfold pack_places
    exact Alloc.t h5 fun k1 w8 h8 => ⟨k1, rfl, h8⟩
  · rintro e w8 ⟨v, he, k1, rfl, h8⟩
    refine ⟨_, he, ?_⟩
    refine RangeP.t (by kernel_rfl) h8 (N := ws.sum) (arg := placeA ws)
      (Inv := fun m Γm => Γm = blk k1 #[.slice (ptr g2) ws.length c2] 52 :: blk k8 #[.slice (ptr (some k5)) ws.length ws.length] 37 :: rowP 22 1 (some k5) ws.length ws.length (u64s (curL s.data.toList ws m)) :: blk k2 #[.string (strB (s.data.toList.drop m))] 9 :: Γ)
      rfl ?_ ?_ ?_
    · intro yv J hJ hc W hW
      refine places_spec hv (J := J) (g := g2) (cap := c2) (fun m W hm => ?_) hc W hW
      obtain ⟨Γk, x, y, rfl, h⟩ := hJ m W hm
      exact ⟨h.ld (by repeat (first | exact List.Mem.head _ | refine List.Mem.tail _ ?_)) rfl, T.readsW h (by repeat (first | exact hm2 | refine List.mem_cons_of_mem _ ?_))⟩
    · rintro obf l d m Γk W Φ hm rfl hW hΦ
      obtain ⟨i, k, x, hx, hk, rfl⟩ := placeL_inv ws 0 m hm
      have hx8 := hv.at hx
      have hil : i < ws.length := (List.getElem?_eq_some_iff.1 hx).1
      rw [placeA_get hx hk]
      refine ⟨_, _, rfl, ?_⟩
      refine RoundP.t hW (G := fun Γ' => Γ' = ob d (.deferred (some [])) :: blk k1 #[.slice (ptr g2) ws.length c2] 52 :: blk k8 #[.slice (ptr (some k5)) ws.length ws.length] 37 :: rowP 22 1 (some k5) ws.length ws.length (u64s (curL s.data.toList ws (wsum ws i + k + 1))) :: blk k2 #[.string (strB (s.data.toList.drop (wsum ws i + k + 1)))] 9 :: Γ) ?_ ?_
      · rintro Γ' w' rfl h'
        exact hΦ _ w' rfl h'
      · intro K X R w9 h9 hK
        have hb : s.data.toList[wsum ws i + k]? = some (s.data.toList[wsum ws i + k]'(by omega)) := by simp [hlen, hm]
        generalize s.data.toList[wsum ws i + k]'(by omega) = b at hb
        have hd0 : (s.data.toList.drop (wsum ws i + k)).getD 0 0 = b := by simp [List.getD, hb]
        have hdl : (strB (s.data.toList.drop (wsum ws i + k))).size = ws.sum - (wsum ws i + k) := by rw [strB_size, List.length_drop, hlen]
        obtain ⟨hst, hlt⟩ := curP_step hx hk hb
        have hbb := b.toNat_lt
        have hp : (256 : Nat) ^ k = 2 ^ (8 * k) := by rw [Nat.pow_mul]
        rw [hp] at hst hlt
        have hval : curP s.data.toList ws (wsum ws i + k) i + b.toNat * 2 ^ (8 * k) < 18446744073709551616 := by
          have h1 : b.toNat * 2 ^ (8 * k) ≤ 255 * 2 ^ (8 * k) := Nat.mul_le_mul_right _ (by omega)
          have h2 : (2 : Nat) ^ (8 * k) ≤ 2 ^ 56 := Nat.pow_le_pow_right (by decide) (by omega)
          have h3 : (2 : Nat) ^ 56 = 72057594037927936 := by decide
          omega
        have hwr : IntKind.u64.wrap (IntKind.u64.wrap ((b.toNat : Nat) : Int) * 2 ^ (min ((8 * k : Nat) : Int).toNat 64)) = ((b.toNat * 2 ^ (8 * k) : Nat) : Int) := by
          rw [Int.toNat_natCast, Nat.min_eq_left (by omega)]
          have e1 : IntKind.u64.wrap ((b.toNat : Nat) : Int) = ((b.toNat : Nat) : Int) := by rw [wrapU64]; omega
          have e2 : ((b.toNat : Nat) : Int) * 2 ^ (8 * k) = ((b.toNat * 2 ^ (8 * k) : Nat) : Int) := by push_cast; rfl
          rw [e1, e2, wrapU64]; omega
        have hor := or64 hlt hval
        refine ⟨fun w => T F w0 w _, h9.drew, _, _, _, fun w h => h.ld (by repeat (first | exact List.Mem.head _ | refine List.Mem.tail _ ?_)) rfl, _, rfl, by omega, by omega, (curP s.data.toList ws (wsum ws i + k) i : Int), fun w h => ?_, _, fun w h => h.ld (by repeat (first | exact List.Mem.head _ | refine List.Mem.tail _ ?_)) rfl, ((b.toNat : Nat) : Int), fun w h => ?_, by omega, _, rfl, by omega, by omega, ?_⟩
        · obtain ⟨b', hb', _, hc⟩ := T.cell1 h (e := 22) (g := some k5) (n := ws.length) (cap := ws.length) (i := i) (by repeat (first | exact List.Mem.head _ | refine List.Mem.tail _ ?_)) (u64s_get (curL_get s.data.toList ws (wsum ws i + k) hil))
          cases hb'
          rw [Int.toNat_natCast]; exact hc
        · have := index_str (P := Tryd.prog) (t := 9) (k := .i64) (n := 0) (s := strB (s.data.toList.drop (wsum ws i + k))) (w := w) (by kernel_rfl) (by omega) (by rw [hdl]; omega)
          rw [this]
          congr 4
        · rw [hwr, hor, ← hst, Int.toNat_natCast, addr_add, Nat.zero_add, Nat.mul_one]
          refine StRow.t h9.drew (.tail (.tail (.tail (.tail .head)))) (by rw [u64s_len, curL_len]; exact hil) rfl fun w10 h10 => ?_
          rw [curL_step s.data.toList hx hk] at h10
          refine ⟨_, h10.ld (by repeat (first | exact List.Mem.head _ | refine List.Mem.tail _ ?_)) rfl, _, _, slice_from (by kernel_rfl) (by omega) (by rw [hdl]; omega), ?_⟩
          have hex : (strB (s.data.toList.drop (wsum ws i + k))).extract (1 : Int).toNat (strB (s.data.toList.drop (wsum ws i + k))).size = strB (s.data.toList.drop (wsum ws i + k + 1)) := by
            rw [strB_extract, strB_size, List.drop_drop, List.take_of_length_le (by simp; omega)]
            rfl
          rw [hex]
          refine St.t h10 (by repeat (first | exact Turn.head | apply Turn.tail)) (by simp) (by rfl) rfl fun w11 h11 => hK _ w11 rfl ?_
          exact h11.swap (Pick.perm (.tail (.tail (.tail (.tail .head))))).symm
    · rintro d Γ' w' rfl h'
      rw [curL_all] at h'
      refine ⟨_, _, _, h'.ld (by repeat (first | exact List.Mem.head _ | refine List.Mem.tail _ ?_)) rfl, ?_⟩
      refine shut_mark (Q := fun w2 => ∃ b, (Value.tuple #[.slice (ptr (some k5)) ws.length ws.length, .int .i64 0]) = .tuple #[.slice (ptr (some b)) ws.length ws.length, .int .i64 0] ∧ T F w0 w2 (rowP 22 1 (some b) ws.length ws.length (u64s (decP s.data.toList ws)) :: Γ)) h' fun w2 h2 => ⟨k5, rfl, T.dropAt h2.drop.drop (.tail .head)⟩
end Go.Proofs.YtmipjkalfodcpaaDoor
end
section
/-! A range over a function that leaves the function; strings.Trim of one byte. -/
namespace Go.Sh
open Go.RowKit
set_option linter.unusedVariables false
theorem RoundR.t {obf : LoopState → Option Code → Obj} {l : Nat} {Φ : Value → World → Prop} {body : (World → Prop) → (Nat → World → Prop) → (World → Prop) → World → Prop} {F : List Nat} {w0 W : World} {Γ : List A}
    (hT : T F w0 W (ob l (obf .ready none) :: Γ)) {G : List A → Prop} (hΦ : ∀ Γ' w', G Γ' → T F w0 w' (ob l (obf .done (some .ret)) :: Γ') → Φ (.bool false) w')
    (hb : ∀ K X R w1, T F w0 w1 (ob l (obf .busy none) :: Γ) → (∀ Γ' w2, G Γ' → T F w0 w2 (ob l (obf .busy none) :: Γ') → R w2) → body K X R w1) : RoundP obf l Φ body W :=
  ⟨hT.got List.mem_cons_self, hb _ _ _ _ hT.putTop fun Γ' w2 hg h2 => ⟨h2.got List.mem_cons_self, hΦ Γ' _ hg h2.putTop⟩⟩
/-- the callee writes, too; the N-th round leaves the function -/
theorem RangeR.t {P : Program} {round : (LoopState → Option Code → Obj) → Nat → List Value → World → (Value → World → Prop) → Prop} {os : List (Nat × (Nat → World → Prop))} {K R : Nat → World → Prop} {f : FuncId} {first cap : Array Value} (hb : bodyB P f = true)
    {F : List Nat} {w0 w : World} {Γ : List A} (hT : T F w0 w Γ) {N : Nat} {arg : Nat → List Value} {Inv Mid : Nat → List A → Prop} {Out : List A → Prop}
    (hcallee : ∀ (yv : Value) (x y z : A), (∀ k W Γk, k < N → Inv k Γk → T F w0 W (x :: y :: Γk) → CallF P yv (arg k) W fun e w' => e = .returned (.bool true) ∧ ∃ Γ', Mid k Γ' ∧ T F w0 w' (x :: y :: Γ')) →
      (∀ W Γk, Inv N Γk → T F w0 W (x :: y :: Γk) → CallF P yv (arg N) W fun e w' => e = .returned (.bool false) ∧ ∃ Γ', Out Γ' ∧ T F w0 w' (z :: y :: Γ')) →
      ∀ W, T F w0 W (x :: y :: Γ) → Calls P f (first.toList ++ [yv] ++ cap.toList).toArray W fun e w' => (∃ v, e = .returned v) ∧ ∃ Γ', Out Γ' ∧ T F w0 w' (z :: y :: Γ'))
    (hround : ∀ (obf : LoopState → Option Code → Obj) (l d k : Nat) (Γk : List A) (W : World) (Φ : Value → World → Prop), k < N → Inv k Γk → T F w0 W (ob l (obf .ready none) :: ob d (.deferred (some [])) :: Γk) →
      (∀ Γ' w', Mid k Γ' → T F w0 w' (ob l (obf .ready none) :: ob d (.deferred (some [])) :: Γ') → Φ (.bool true) w') → round obf l (arg k) W Φ)
    (hbrk : ∀ (obf : LoopState → Option Code → Obj) (l d : Nat) (Γk : List A) (W : World) (Φ : Value → World → Prop), Inv N Γk → T F w0 W (ob l (obf .ready none) :: ob d (.deferred (some [])) :: Γk) →
      (∀ Γ' w', Out Γ' → T F w0 w' (ob l (obf .done (some .ret)) :: ob d (.deferred (some [])) :: Γ') → Φ (.bool false) w') → round obf l (arg N) W Φ)
    (hK : ∀ d Γ' w', Out Γ' → T F w0 w' (ob d (.deferred (some [])) :: Γ') → R d w') : RangeP P (.func (.func f) first cap) round os K R w := by
  intro obf hob hyield
  refine ⟨f, first, cap, rfl, hb, ?_⟩
  have hsz : (w.alloc (.deferred (some []))).heap.size = w.heap.size + 1 := by simp
  have h2 := (hT.alloc (.deferred (some []))).alloc (obf .ready none)
  rw [hsz] at h2
  refine (hcallee (.func (.yield (w.heap.size + 1)) #[] #[]) (ob (w.heap.size + 1) (obf .ready none)) (ob w.heap.size (.deferred (some []))) (ob (w.heap.size + 1) (obf .done (some .ret))) ?_ ?_ _ h2).mono ?_
  · intro k W Γk hk hi h
    show CallV P (.func (.yield (w.heap.size + 1)) #[] #[]) (arg k) W _
    exact hyield _ _ _ (h.got List.mem_cons_self) (hround obf _ w.heap.size k Γk W _ hk hi h fun Γ' w' hi' h' => ⟨rfl, Γ', hi', h'⟩)
  · intro W Γk hi h
    show CallV P (.func (.yield (w.heap.size + 1)) #[] #[]) (arg N) W _
    exact hyield _ _ _ (h.got List.mem_cons_self) (hbrk obf _ w.heap.size Γk W _ hi h fun Γ' w' hi' h' => ⟨rfl, Γ', hi', h'⟩)
  · rintro e w3 ⟨hv, Γk, hi, h⟩
    exact ⟨hv, .done, some .ret, h.got List.mem_cons_self, by simp, .inr (.inl ⟨rfl, hK _ Γk _ hi h.putTop.drop⟩)⟩
/-- the callee writes, too; all rounds go on -/
theorem RangeA.t {P : Program} {round : (LoopState → Option Code → Obj) → Nat → List Value → World → (Value → World → Prop) → Prop} {os : List (Nat × (Nat → World → Prop))} {K R : Nat → World → Prop} {f : FuncId} {first cap : Array Value} (hb : bodyB P f = true)
    {F : List Nat} {w0 w : World} {Γ : List A} (hT : T F w0 w Γ) {N : Nat} {arg : Nat → List Value} {Inv Mid : Nat → List A → Prop}
    (hcallee : ∀ (yv : Value) (x y : A), (∀ k W Γk, k < N → Inv k Γk → T F w0 W (x :: y :: Γk) → CallF P yv (arg k) W fun e w' => e = .returned (.bool true) ∧ ∃ Γ', Mid k Γ' ∧ T F w0 w' (x :: y :: Γ')) →
      ∀ W, T F w0 W (x :: y :: Γ) → Calls P f (first.toList ++ [yv] ++ cap.toList).toArray W fun e w' => (∃ v, e = .returned v) ∧ ∃ Γ', Inv N Γ' ∧ T F w0 w' (x :: y :: Γ'))
    (hround : ∀ (obf : LoopState → Option Code → Obj) (l d k : Nat) (Γk : List A) (W : World) (Φ : Value → World → Prop), k < N → Inv k Γk → T F w0 W (ob l (obf .ready none) :: ob d (.deferred (some [])) :: Γk) →
      (∀ Γ' w', Mid k Γ' → T F w0 w' (ob l (obf .ready none) :: ob d (.deferred (some [])) :: Γ') → Φ (.bool true) w') → round obf l (arg k) W Φ)
    (hK : ∀ d Γ' w', Inv N Γ' → T F w0 w' (ob d (.deferred (some [])) :: Γ') → K d w') : RangeP P (.func (.func f) first cap) round os K R w := by
  intro obf hob hyield
  refine ⟨f, first, cap, rfl, hb, ?_⟩
  have hsz : (w.alloc (.deferred (some []))).heap.size = w.heap.size + 1 := by simp
  have h2 := (hT.alloc (.deferred (some []))).alloc (obf .ready none)
  rw [hsz] at h2
  refine (hcallee (.func (.yield (w.heap.size + 1)) #[] #[]) (ob (w.heap.size + 1) (obf .ready none)) (ob w.heap.size (.deferred (some []))) ?_ _ h2).mono ?_
  · intro k W Γk hk hi h
    show CallV P (.func (.yield (w.heap.size + 1)) #[] #[]) (arg k) W _
    exact hyield _ _ _ (h.got List.mem_cons_self) (hround obf _ w.heap.size k Γk W _ hk hi h fun Γ' w' hi' h' => ⟨rfl, Γ', hi', h'⟩)
  · rintro e w3 ⟨hv, Γk, hi, h⟩
    exact ⟨hv, .ready, none, h.got List.mem_cons_self, by simp, .inl ⟨rfl, hK _ Γk _ hi h.putTop.drop⟩⟩
end Go.Sh
namespace Go.Proofs.YtmipjkalfodcpaaDoor
open Go.Sh Go.RowKit
set_option linter.unusedVariables false
set_option linter.unusedSimpArgs false
set_option maxRecDepth 20000
set_option maxHeartbeats 2000000
theorem trimL_spec (l : List UInt8) (b : UInt8) (w : World) : Calls Tryd.prog 44 #[.string (strB l), .int .u8 (b.toNat : Int)] w fun e w' => ∃ r m : List UInt8, e = .returned (.string (strB m)) ∧ l = r ++ m ∧ (∀ x ∈ r, x = b) ∧ (∀ x t, m = x :: t → x ≠ b) ∧ Ext w w' := by
  refine (strings_trimLeftByte_calls (R := fun v w' => ∃ r m : List UInt8, v = .string (strB m) ∧ l = r ++ m ∧ (∀ x ∈ r, x = b) ∧ (∀ x t, m = x :: t → x ≠ b) ∧ Ext w w') ?_).mono fun e w' ⟨v, he, r, m, hv, h⟩ => ⟨r, m, by rw [he, hv], h⟩
  unfold strings_trimLeftByte
  refine ⟨fun vs w' => w' = w ∧ ∃ r m : List UInt8, vs = [.string (strB m)] ∧ l = r ++ m ∧ (∀ x ∈ r, x = b), fun vs _ => match vs with | [.string s] => s.size | _ => 0, ⟨rfl, [], l, rfl, rfl, by simp⟩, ?_⟩
  rintro vs w1 ⟨rfl, r, m, rfl, hl, hr⟩
  refine ⟨_, rfl, dec_t fun hlt => ?_, dec_f fun hge => ?_⟩
  · rw [strB_size] at hlt
    obtain ⟨x, t, rfl⟩ : ∃ x t, m = x :: t := by
      cases m with
      | nil => simp at hlt
      | cons x t => exact ⟨x, t, rfl⟩
    have hix := index_str (P := Tryd.prog) (t := 9) (k := .i64) (n := (0 : Int)) (s := strB (x :: t)) (w := w1) (by kernel_rfl) (by omega) (by rw [strB_size]; simp)
    refine ⟨(x.toNat : Int), w1, hix, beq_t fun hx => ?_, beq_f fun hx => ?_⟩
    · have hsl := slice_from (P := Tryd.prog) (t := 9) (k := .i64) (s := strB (x :: t)) (lo := 1) (w := w1) (by kernel_rfl) (by omega) (by rw [strB_size]; simp; omega)
      rw [strB_extract, strB_size] at hsl
      have ht : ((x :: t).drop (1 : Int).toNat).take ((x :: t).length - (1 : Int).toNat) = t := by simp
      rw [ht] at hsl
      have hxb : x = b := UInt8.toNat_inj.1 (by omega)
      refine ⟨_, w1, hsl, ⟨rfl, r ++ [x], t, rfl, by simp [hl], fun y hy => ?_⟩, ?_⟩
      · rcases List.mem_append.1 hy with hy | hy
        · exact hr y hy
        · rw [List.mem_singleton.1 hy]; exact hxb
      · show (strB t).size < (strB (x :: t)).size
        rw [strB_size, strB_size]; simp
    · exact ⟨r, x :: t, rfl, hl, hr, fun y s hy => by cases hy; exact fun e => hx (by rw [e]), Ext.refl _⟩
  · rw [strB_size] at hge
    have : m = [] := List.eq_nil_of_length_eq_zero (by omega)
    subst this
    exact ⟨r, [], rfl, hl, hr, (fun y s hy => by cases hy), Ext.refl _⟩
theorem trimR_spec (l : List UInt8) (hl : l.length ≤ 1000000000) (b : UInt8) (w : World) : Calls Tryd.prog 45 #[.string (strB l), .int .u8 (b.toNat : Int)] w fun e w' => ∃ r m : List UInt8, e = .returned (.string (strB m)) ∧ l = m ++ r ∧ (∀ x ∈ r, x = b) ∧ Ext w w' := by
  refine (strings_trimRightByte_calls (R := fun v w' => ∃ r m : List UInt8, v = .string (strB m) ∧ l = m ++ r ∧ (∀ x ∈ r, x = b) ∧ Ext w w') ?_).mono fun e w' ⟨v, he, r, m, hv, h⟩ => ⟨r, m, by rw [he, hv], h⟩
  unfold strings_trimRightByte
  refine ⟨fun vs w' => w' = w ∧ ∃ r m : List UInt8, vs = [.string (strB m)] ∧ l = m ++ r ∧ (∀ x ∈ r, x = b), fun vs _ => match vs with | [.string s] => s.size | _ => 0, ⟨rfl, [], l, rfl, by simp, by simp⟩, ?_⟩
  rintro vs w1 ⟨rfl, r, m, rfl, hlm, hr⟩
  have hml : m.length ≤ 1000000000 := by have := congrArg List.length hlm; simp at this; omega
  refine ⟨_, rfl, dec_t fun hlt => ?_, dec_f fun hge => ⟨r, m, rfl, hlm, hr, Ext.refl _⟩⟩
  rw [strB_size] at hlt ⊢
  have e1 : IntKind.i64.wrap ((m.length : Int) - 1) = ((m.length - 1 : Nat) : Int) := by rw [wrap64 _ (by omega) (by omega)]; omega
  rw [e1]
  have hix := index_str (P := Tryd.prog) (t := 9) (k := .i64) (n := ((m.length - 1 : Nat) : Int)) (s := strB m) (w := w1) (by kernel_rfl) (by omega) (by rw [strB_size]; omega)
  rw [Int.toNat_natCast] at hix
  refine ⟨((m.getD (m.length - 1) 0).toNat : Int), w1, hix, beq_t fun hx => ?_, beq_f fun hx => ⟨r, m, rfl, hlm, hr, Ext.refl _⟩⟩
  have hsl := slice_to (P := Tryd.prog) (t := 9) (k := .i64) (s := strB m) (hi := ((m.length - 1 : Nat) : Int)) (w := w1) (by kernel_rfl) (by omega) (by rw [strB_size]; omega)
  rw [strB_extract, List.drop_zero, Nat.sub_zero, Int.toNat_natCast] at hsl
  have hxb : m.getD (m.length - 1) 0 = b := UInt8.toNat_inj.1 (by omega)
  have hsp : m = m.take (m.length - 1) ++ [b] := by
    have h0 : m.length - 1 < m.length := by omega
    have h1 : m.getD (m.length - 1) 0 = m[m.length - 1] := by simp [List.getD, h0]
    rw [h1] at hxb
    rw [← hxb]
    have h2 := List.take_append_drop (m.length - 1) m
    rw [List.drop_eq_getElem_cons h0, List.drop_of_length_le (by omega)] at h2
    exact h2.symm
  refine ⟨_, w1, hsl, ⟨rfl, b :: r, m.take (m.length - 1), rfl, ?_, fun y hy => ?_⟩, ?_⟩
  · rw [hlm]
    conv => lhs; rw [hsp]
    simp
  · rcases List.mem_cons.1 hy with rfl | hy
    · rfl
    · exact hr y hy
  · show (strB (m.take (m.length - 1))).size < (strB m).size
    rw [strB_size, strB_size, List.length_take]; omega
theorem trim_spec (l : List UInt8) (hl : l.length ≤ 1000000000) (w : World) : Calls Tryd.prog 24 #[.string (strB l), .string (strB [0])] w fun e w' => ∃ m : List UInt8, e = .returned (.string (strB m)) ∧ (m = [] ↔ ∀ x ∈ l, x = 0) ∧ Ext w w' := by
  refine (strings_Trim_calls (R := fun v w' => ∃ m : List UInt8, v = .string (strB m) ∧ (m = [] ↔ ∀ x ∈ l, x = 0) ∧ Ext w w') ?_).mono fun e w' ⟨v, he, m, hv, h⟩ => ⟨m, by rw [he, hv], h⟩
  unfold strings_Trim
  rw [strB_toList, strB_toList, strB_toList]
  refine ⟨fun h => ?_, fun h => no (by decide) ?_⟩
  · have : l = [] := by simpa using h
    subst this
    exact ⟨[], rfl, by simp, Ext.refl w⟩
  refine Join.intro fun J hJ => yes (by decide) ?_
  have hix : ∀ w', (Instr.index 9 (.string (strB [0])) (.int .i64 0)).run Tryd.prog w' = .ok (.int .u8 ((0 : UInt8).toNat : Int)) w' := fun w' =>
    index_str (P := Tryd.prog) (t := 9) (k := .i64) (n := (0 : Int)) (s := strB [0]) (w := w') (by kernel_rfl) (by omega) (by rw [strB_size]; simp)
  refine ⟨_, w, hix w, yes (by decide) ⟨fun _ => True, trivial, _, fun w' _ => hix w', ?_⟩⟩
  refine (trimR_spec l hl 0 _).mono fun e w1 ⟨r1, m1, he, h1, hr1, hx1⟩ => ⟨_, he, trivial, _, fun w' _ => hix w', ?_⟩
  refine (trimL_spec m1 0 _).mono fun e w2 ⟨r2, m2, he, h2, hr2, hn2, hx2⟩ => ⟨_, he, trivial, m2, rfl, ?_, ((Ext.refl w).drew.trans hx1).trans hx2⟩
  constructor
  · rintro rfl x hx
    rw [h1, h2, List.append_nil] at hx
    rcases List.mem_append.1 hx with h | h
    · exact hr2 x h
    · exact hr1 x h
  · intro hall
    cases m2 with
    | nil => rfl
    | cons x t => exact absurd (hall x (by rw [h1, h2]; simp)) (hn2 x t rfl)
theorem slice_mid {P : Program} {t : TypeId} {s : ByteArray} {k k' : IntKind} {lo hi : Int} {w : World} (ht : P.underlying t = some .string) (h0 : 0 ≤ lo) (h1 : lo ≤ hi) (h2 : hi ≤ (s.size : Int)) :
    (Instr.sliceAt t (.string s) (some (.int k lo)) (some (.int k' hi)) none).run P w = .ok (.string (s.extract lo.toNat hi.toNat)) w := by
  have h3 : 0 ≤ lo ∧ lo ≤ hi := ⟨h0, h1⟩
  have h4 : 0 ≤ hi ∧ hi ≤ (s.size : Int) := ⟨by omega, h2⟩
  have h5 : ¬ max hi 0 < lo := by omega
  simp [Instr.sliceAt, Instr.slice, Instr.sliceBounds, Instr.sliceBound, asIntOf, underlying_run ht, h3, h4, h5]
theorem hasPrefix_spec (l m : List UInt8) (w : World) : Ret Tryd.prog 61 #[.string (strB l), .string (strB m)] w (.bool (decide (l.take m.length = m))) := by
  refine ret_of (internal_stringslite_HasPrefix_calls ?_)
  unfold internal_stringslite_HasPrefix
  rw [strB_size, strB_size]
  refine ⟨dec_t fun hge => ?_, dec_f fun hlt => ⟨?_, Ext.refl w⟩⟩
  · have hsl := slice_to (P := Tryd.prog) (t := 9) (k := .i64) (s := strB l) (hi := (m.length : Int)) (w := w) (by kernel_rfl) (by omega) (by rw [strB_size]; omega)
    rw [strB_extract, List.drop_zero, Nat.sub_zero, Int.toNat_natCast] at hsl
    refine ⟨_, w, hsl, ?_, Ext.refl w⟩
    rw [strB_toList, strB_toList]
    by_cases h : l.take m.length = m
    · rw [decide_eq_true h, h]; simp
    · rw [decide_eq_false h]
      have : (l.take m.length == m) = false := by simpa using h
      rw [this]
  · rw [decide_eq_false]
    intro e
    have := congrArg List.length e
    rw [List.length_take] at this
    omega
def cutV (l m : List UInt8) : Value := if l.take m.length = m then .tuple #[.string (strB (l.drop m.length)), .bool true] else .tuple #[.string (strB l), .bool false]
theorem cutPrefix_spec (l m : List UInt8) (hl : l.length ≤ 1000000) (w : World) : Ret Tryd.prog 23 #[.string (strB l), .string (strB m)] w (cutV l m) := by
  refine ret_of (strings_CutPrefix_calls ?_)
  unfold strings_CutPrefix
  have h1 : Ret Tryd.prog 43 #[.string (strB l), .string (strB m)] w (cutV l m) := by
    refine ret_of (internal_stringslite_CutPrefix_calls ?_)
    unfold internal_stringslite_CutPrefix
    refine (hasPrefix_spec l m w).mono fun e w1 ⟨he, hx⟩ => ⟨_, he, ?_⟩
    unfold cutV
    by_cases h : l.take m.length = m
    · rw [decide_eq_true h, if_pos h]
      refine no rfl ?_
      have hml : m.length ≤ l.length := by
        have := congrArg List.length h
        rw [List.length_take] at this
        omega
      have hsl := slice_from (P := Tryd.prog) (t := 9) (k := .i64) (s := strB l) (lo := (m.length : Int)) (w := w1) (by kernel_rfl) (by omega) (by rw [strB_size]; omega)
      rw [strB_extract, strB_size, Int.toNat_natCast, List.take_of_length_le (by rw [List.length_drop]; omega)] at hsl
      exact ⟨_, w1, by rw [strB_size]; exact hsl, rfl, hx⟩
    · rw [decide_eq_false h, if_neg h]
      exact yes rfl ⟨rfl, hx⟩
  refine h1.mono fun e w1 ⟨he, hx⟩ => ?_
  unfold cutV at he ⊢
  split at he
  · rename_i h
    exact ⟨_, _, he, by rw [if_pos h], hx⟩
  · rename_i h
    exact ⟨_, _, he, by rw [if_neg h], hx⟩
end Go.Proofs.YtmipjkalfodcpaaDoor
end
section
/-! What is owned, of a kind: lists of parts that something says. -/
namespace Go.Sh
open Go.RowKit
set_option linter.unusedVariables false
/-- a kind of parts -/
abbrev Kd := List A → Prop
def Ow (h : Kd) (F : List Nat) (w0 w : World) (X : List A) : Prop := ∃ Y, h Y ∧ T F w0 w (X ++ Y)
def star (h g : Kd) : Kd := fun Y => ∃ Y1 Y2, h Y1 ∧ g Y2 ∧ Y = Y1 ++ Y2
def noK : Kd := fun Y => Y = []
section
variable {h g : Kd} {F : List Nat} {w0 w : World} {X : List A}
theorem Ow.mk' {Y : List A} (hY : h Y) (hT : T F w0 w (X ++ Y)) : Ow h F w0 w X := ⟨Y, hY, hT⟩
theorem Ow.quiet {w' : World} (H : Ow h F w0 w X) (he : Ext w w') : Ow h F w0 w' X := by
  obtain ⟨Y, hY, hT⟩ := H
  exact ⟨Y, hY, hT.quiet he⟩
theorem Ow.drew (H : Ow h F w0 w X) : Ow h F w0 w.drew X := by
  obtain ⟨Y, hY, hT⟩ := H
  exact ⟨Y, hY, hT.drew⟩
theorem Ow.perm {X' : List A} (H : Ow h F w0 w X) (hp : X.Perm X') : Ow h F w0 w X' := by
  obtain ⟨Y, hY, hT⟩ := H
  exact ⟨Y, hY, hT.swap (hp.append_right _)⟩
theorem Ow.dropX {x : A} (H : Ow h F w0 w (x :: X)) : Ow h F w0 w X := by
  obtain ⟨Y, hY, hT⟩ := H
  exact ⟨Y, hY, T.drop hT⟩
theorem T.leave {Γ Δ : List A} (H : T F w0 w (Γ ++ Δ)) : T F w0 w Γ := by
  have H2 : T F w0 w (Δ ++ Γ) := H.swap List.perm_append_comm
  clear H
  induction Δ with
  | nil => exact H2
  | cons x Δ ih => exact ih (T.drop H2)
theorem Ow.under (H : Ow h F w0 w X) : T F w0 w X := by
  obtain ⟨Y, hY, hT⟩ := H
  exact T.leave hT
theorem Ow.leave {Z : List A} (H : Ow h F w0 w (X ++ Z)) : Ow h F w0 w X := by
  obtain ⟨Y, hY, hT⟩ := H
  have : T F w0 w ((X ++ Y) ++ Z) := hT.swap (by rw [List.append_assoc, List.append_assoc]; exact List.Perm.append_left _ List.perm_append_comm)
  exact ⟨Y, hY, T.leave this⟩
theorem Ow.ext (H : Ow h [] w0 w X) : Ext w0 w := H.under.chg.ext
theorem Ow.ld {b i : Nat} {c : Array Value} {t : TypeId} {v : Value} (H : Ow h F w0 w X) (hm : blk b c t ∈ X) (hv : c[i]? = some v) : w.cell? ⟨b, i, none⟩ = some v := H.under.ld hm hv
theorem Ow.of_T (H : T F w0 w X) : Ow noK F w0 w X := ⟨[], rfl, by rw [List.append_nil]; exact H⟩
theorem Ow.call {w' : World} {Γ Γ' : List A} (H : Ow h F w0 w (Γ ++ X)) (hc : T (feet Γ) w w' Γ') : Ow h F w0 w' (Γ' ++ X) := by
  obtain ⟨Y, hY, hT⟩ := H
  rw [List.append_assoc] at hT
  exact ⟨Y, hY, by rw [List.append_assoc]; exact T.call hT hc⟩
/-- a call that makes new parts alone -/
theorem Ow.new {w' : World} {Γ : List A} (H : Ow h F w0 w X) (hc : T [] w w' Γ) : Ow h F w0 w' (Γ ++ X) := Ow.call (Γ := []) H hc
theorem Ow.alloc {c : Array Value} {t : TypeId} {K : Nat → World → Prop} (H : Ow h F w0 w X) (hK : ∀ b w', Ow h F w0 w' (blk b c t :: X) → K b w') : Alloc c t w K := by
  obtain ⟨Y, hY, hT⟩ := H
  exact Alloc.t hT fun b w' h' => hK b w' ⟨Y, hY, h'⟩
theorem Turn.app {x y : A} {Γ Γ' : List A} (hu : Turn x y Γ Γ') (Y : List A) : Turn x y (Γ ++ Y) (Γ' ++ Y) := by
  induction hu with
  | head => exact .head
  | tail _ ih => exact .tail ih
theorem Pick.app {x : A} {Γ Γ' : List A} (hu : Pick x Γ Γ') (Y : List A) : Pick x (Γ ++ Y) (Γ' ++ Y) := by
  induction hu with
  | head => exact .head
  | tail _ ih => exact .tail ih
theorem Ow.st {X' : List A} {k i : Nat} {c c' : Array Value} {t : TypeId} {v : Value} {K : World → Prop} (H : Ow h F w0 w X) (hu : Turn (blk k c t) (blk k c' t) X X') (hi : i < c.size) (hc : c.setIfInBounds i v = c') (hv : scalar v = true) (hK : ∀ w', Ow h F w0 w' X' → K w') : St ⟨k, i, none⟩ v w K := by
  obtain ⟨Y, hY, hT⟩ := H
  exact St.t hT (hu.app Y) hi hc hv fun w' hT' => hK w' ⟨Y, hY, hT'⟩
/-- what is done to the parts at hand -/
theorem Ow.into {K : Prop} (H : Ow h F w0 w X) (hK : ∀ Y, T F w0 w (X ++ Y) → (∀ w' X', T F w0 w' (X' ++ Y) → Ow h F w0 w' X') → K) : K := by
  obtain ⟨Y, hY, hT⟩ := H
  exact hK Y hT fun w' X' hT' => ⟨Y, hY, hT'⟩
theorem Ow.mono (hi : ∀ Y, h Y → g Y) (H : Ow h F w0 w X) : Ow g F w0 w X := by
  obtain ⟨Y, hY, hT⟩ := H
  exact ⟨Y, hi Y hY, hT⟩
/-- the second kind is lent -/
theorem Ow.lend (H : Ow (star h g) F w0 w X) : ∃ Z, g Z ∧ Ow h F w0 w (X ++ Z) ∧ ∀ {h' : Kd} {F' : List Nat} {w0' w' : World} {X' : List A}, Ow h' F' w0' w' (X' ++ Z) → Ow (star h' g) F' w0' w' X' := by
  obtain ⟨Y, ⟨Y1, Y2, h1, h2, rfl⟩, hT⟩ := H
  refine ⟨Y2, h2, ⟨Y1, h1, hT.swap ?_⟩, fun {h' F' w0' w' X'} H' => ?_⟩
  · rw [List.append_assoc]; exact List.Perm.append_left _ List.perm_append_comm
  · obtain ⟨Y1', h1', hT'⟩ := H'
    exact ⟨_, ⟨Y1', Y2, h1', h2, rfl⟩, hT'.swap (by rw [List.append_assoc]; exact List.Perm.append_left _ List.perm_append_comm)⟩
theorem Ow.flip (H : Ow (star h g) F w0 w X) : Ow (star g h) F w0 w X := by
  obtain ⟨Y, ⟨Y1, Y2, h1, h2, rfl⟩, hT⟩ := H
  exact ⟨_, ⟨Y2, Y1, h2, h1, rfl⟩, hT.swap (List.Perm.append_left _ List.perm_append_comm)⟩
theorem Ow.join {Z : List A} (hg : g Z) (H : Ow h F w0 w (X ++ Z)) : Ow (star h g) F w0 w X := by
  obtain ⟨Y1, h1, hT⟩ := H
  exact ⟨_, ⟨Y1, Z, h1, hg, rfl⟩, hT.swap (by rw [List.append_assoc]; exact List.Perm.append_left _ List.perm_append_comm)⟩
theorem Ow.fst (H : Ow (star h g) F w0 w X) : Ow h F w0 w X := by
  obtain ⟨Z, _, H1, _⟩ := H.lend
  exact H1.leave
end
/-- one thing of a kind for each of a list -/
def allK {α : Type} (f : α → Kd) : List α → Kd
  | [] => noK
  | x :: l => star (f x) (allK f l)
section
variable {α : Type} {f : α → Kd} {F : List Nat} {w0 w : World} {X : List A}
theorem allK_snoc {l : List α} {x : α} {Y Z : List A} (hY : allK f l Y) (hZ : f x Z) : ∃ Y', allK f (l ++ [x]) Y' ∧ (Y ++ Z).Perm Y' := by
  induction l generalizing Y with
  | nil =>
    obtain rfl : Y = [] := hY
    exact ⟨Z ++ [], ⟨Z, [], hZ, rfl, rfl⟩, by simp⟩
  | cons y l ih =>
    obtain ⟨Y1, Y2, h1, h2, rfl⟩ := hY
    obtain ⟨Y', h3, h4⟩ := ih h2
    exact ⟨Y1 ++ Y', ⟨Y1, Y', h1, h3, rfl⟩, by rw [List.append_assoc]; exact List.Perm.append_left _ h4⟩
theorem allK_at {l : List α} {k : Nat} {x : α} (hk : l[k]? = some x) {Y : List A} (hY : allK f l Y) : ∃ Y1 Z, f x Y1 ∧ Y.Perm (Y1 ++ Z) ∧ ∀ x' Y1', f x' Y1' → ∃ Y', allK f (l.set k x') Y' ∧ (Y1' ++ Z).Perm Y' := by
  induction l generalizing k Y with
  | nil => simp at hk
  | cons y l ih =>
    obtain ⟨Y1, Y2, h1, h2, rfl⟩ := hY
    cases k with
    | zero =>
      obtain rfl : y = x := by simpa using hk
      exact ⟨Y1, Y2, h1, .refl _, fun x' Y1' hx' => ⟨Y1' ++ Y2, ⟨Y1', Y2, hx', h2, rfl⟩, .refl _⟩⟩
    | succ k =>
      obtain ⟨Z1, Z2, h3, h4, h5⟩ := ih (by simpa using hk) h2
      have sw : ∀ a b c : List A, (a ++ (b ++ c)).Perm (b ++ (a ++ c)) := fun a b c => by
        rw [← List.append_assoc, ← List.append_assoc]; exact List.perm_append_comm.append_right _
      refine ⟨Z1, Y1 ++ Z2, h3, (List.Perm.append_left _ h4).trans (sw _ _ _), fun x' Y1' hx' => ?_⟩
      obtain ⟨Y', h6, h7⟩ := h5 x' Y1' hx'
      exact ⟨Y1 ++ Y', ⟨Y1, Y', h1, h6, rfl⟩, (sw _ _ _).trans (List.Perm.append_left _ h7)⟩
/-- one of them is lent -/
theorem Ow.at {l : List α} {k : Nat} {x : α} (hk : l[k]? = some x) (H : Ow (allK f l) F w0 w X) : ∃ Z, Ow (f x) F w0 w (X ++ Z) ∧ ∀ {x' : α} {F' : List Nat} {w0' w' : World} {X' : List A}, Ow (f x') F' w0' w' (X' ++ Z) → Ow (allK f (l.set k x')) F' w0' w' X' := by
  obtain ⟨Y, hY, hT⟩ := H
  obtain ⟨Y1, Z, h1, hp, hb⟩ := allK_at hk hY
  have sw : ∀ a b c : List A, ((a ++ b) ++ c).Perm (a ++ (c ++ b)) := fun a b c => by rw [List.append_assoc]; exact List.Perm.append_left _ List.perm_append_comm
  refine ⟨Z, ⟨Y1, h1, hT.swap ((List.Perm.append_left _ hp).trans ((sw _ _ _).symm))⟩, fun {x' F' w0' w' X'} H' => ?_⟩
  obtain ⟨Y1', h1', hT'⟩ := H'
  obtain ⟨Y', h2, h3⟩ := hb x' Y1' h1'
  exact ⟨Y', h2, hT'.swap ((sw _ _ _).trans (List.Perm.append_left _ h3))⟩
theorem Ow.snoc {l : List α} {x : α} (H : Ow (star (f x) (allK f l)) F w0 w X) : Ow (allK f (l ++ [x])) F w0 w X := by
  obtain ⟨Y, ⟨Y1, Y2, h1, h2, rfl⟩, hT⟩ := H
  obtain ⟨Y', h3, h4⟩ := allK_snoc h2 h1
  exact ⟨Y', h3, hT.swap (List.Perm.append_left _ (List.perm_append_comm.trans h4))⟩
theorem Ow.nil_all (H : T F w0 w X) : Ow (allK f []) F w0 w X := Ow.of_T H
end
section
variable {h h' : Kd} {F : List Nat} {w0 w W : World} {X X' : List A}
theorem Ow.putTop {b : Nat} {o o' : Obj} (H : Ow h F w0 w (ob b o :: X)) : Ow h F w0 (w.putObj b o') (ob b o' :: X) := by
  obtain ⟨Y, hY, hT⟩ := H
  exact ⟨Y, hY, T.putTop hT⟩
theorem Ow.got {b : Nat} {o : Obj} (H : Ow h F w0 w X) (hm : ob b o ∈ X) : w.heap[b]? = some o := H.under.got hm
theorem Ow.shut {d : Nat} {Q : World → Prop} (H : Ow h F w0 w (ob d (.deferred (some [])) :: X)) (hq : ∀ w', Ow h F w0 w' X → Q w') : w.heap[d]? = some (.deferred (some [])) ∧ Q (w.putObj d (.deferred none)) :=
  ⟨H.got List.mem_cons_self, hq _ H.putTop.dropX⟩
theorem RoundO.t {obf : LoopState → Option Code → Obj} {l : Nat} {Φ : Value → World → Prop} {body : (World → Prop) → (Nat → World → Prop) → (World → Prop) → World → Prop}
    (H : Ow h F w0 W (ob l (obf .ready none) :: X)) (hΦ : ∀ w', Ow h' F w0 w' (ob l (obf .ready none) :: X') → Φ (.bool true) w')
    (hb : ∀ K B R w1, Ow h F w0 w1 (ob l (obf .busy none) :: X) → (∀ w2, Ow h' F w0 w2 (ob l (obf .busy none) :: X') → K w2) → body K B R w1) : RoundP obf l Φ body W :=
  ⟨H.got List.mem_cons_self, hb _ _ _ _ H.putTop fun w2 h2 => ⟨h2.got List.mem_cons_self, hΦ _ h2.putTop⟩⟩
theorem RoundRO.t {obf : LoopState → Option Code → Obj} {l : Nat} {Φ : Value → World → Prop} {body : (World → Prop) → (Nat → World → Prop) → (World → Prop) → World → Prop}
    (H : Ow h F w0 W (ob l (obf .ready none) :: X)) (hΦ : ∀ w', Ow h' F w0 w' (ob l (obf .done (some .ret)) :: X') → Φ (.bool false) w')
    (hb : ∀ K B R w1, Ow h F w0 w1 (ob l (obf .busy none) :: X) → (∀ w2, Ow h' F w0 w2 (ob l (obf .busy none) :: X') → R w2) → body K B R w1) : RoundP obf l Φ body W :=
  ⟨H.got List.mem_cons_self, hb _ _ _ _ H.putTop fun w2 h2 => ⟨h2.got List.mem_cons_self, hΦ _ h2.putTop⟩⟩
end
/-- a range over a function whose rounds all go on: those of 'ok' are done -/
theorem RangeO.t {P : Program} {round : (LoopState → Option Code → Obj) → Nat → List Value → World → (Value → World → Prop) → Prop} {os : List (Nat × (Nat → World → Prop))} {K R : Nat → World → Prop} {f : FuncId} {first cap : Array Value} (hb : bodyB P f = true)
    {F : List Nat} {w0 w : World} {ok : Nat → Prop} {h : Nat → Kd} {X : Nat → List A} {N : Nat} {arg : Nat → List Value} (H : Ow (h 0) F w0 w (X 0))
    (hcallee : ∀ (yv : Value) (x y : A), (∀ k W, ok k → Ow (h k) F w0 W (x :: y :: X k) → CallF P yv (arg k) W fun e w' => e = .returned (.bool true) ∧ Ow (h (k + 1)) F w0 w' (x :: y :: X (k + 1))) →
      ∀ W, Ow (h 0) F w0 W (x :: y :: X 0) → Calls P f (first.toList ++ [yv] ++ cap.toList).toArray W fun e w' => (∃ v, e = .returned v) ∧ Ow (h N) F w0 w' (x :: y :: X N))
    (hround : ∀ (obf : LoopState → Option Code → Obj) (l d k : Nat) (W : World) (Φ : Value → World → Prop), ok k → Ow (h k) F w0 W (ob l (obf .ready none) :: ob d (.deferred (some [])) :: X k) →
      (∀ w', Ow (h (k + 1)) F w0 w' (ob l (obf .ready none) :: ob d (.deferred (some [])) :: X (k + 1)) → Φ (.bool true) w') → round obf l (arg k) W Φ)
    (hK : ∀ d w', Ow (h N) F w0 w' (ob d (.deferred (some [])) :: X N) → K d w') : RangeP P (.func (.func f) first cap) round os K R w := by
  intro obf hob hyield
  refine ⟨f, first, cap, rfl, hb, ?_⟩
  have hsz : (w.alloc (.deferred (some []))).heap.size = w.heap.size + 1 := by simp
  have h2 : Ow (h 0) F w0 ((w.alloc (.deferred (some []))).alloc (obf .ready none)) (ob (w.heap.size + 1) (obf .ready none) :: ob w.heap.size (.deferred (some [])) :: X 0) := by
    obtain ⟨Y, hY, hT⟩ := H
    have h2 := (hT.alloc (.deferred (some []))).alloc (obf .ready none)
    rw [hsz] at h2
    exact ⟨Y, hY, h2⟩
  refine (hcallee (.func (.yield (w.heap.size + 1)) #[] #[]) (ob (w.heap.size + 1) (obf .ready none)) (ob w.heap.size (.deferred (some []))) ?_ _ h2).mono ?_
  · intro k W hk h
    show CallV P (.func (.yield (w.heap.size + 1)) #[] #[]) (arg k) W _
    exact hyield _ _ _ (h.got List.mem_cons_self) (hround obf _ w.heap.size k W _ hk h fun w' h' => ⟨rfl, h'⟩)
  · rintro e w3 ⟨hv, h⟩
    exact ⟨hv, .ready, none, h.got List.mem_cons_self, by simp, .inl ⟨rfl, hK _ _ h.putTop.dropX⟩⟩
end Go.Sh
end
section
/-! Many drives, and many of the reference's. -/
namespace Go.Proofs.YtmipjkalfodcpaaDoor
open Go.Sh Go.RowKit
set_option linter.unusedVariables false
set_option linter.unusedSimpArgs false
set_option maxRecDepth 20000
set_option maxHeartbeats 1000000
def drK (p : Nat) (a : AD) : Kd := fun Y => ∃ D, D.p = p ∧ Abs D a ∧ Y = drvL D
section
variable {p q : Nat} {a : AD} {F : List Nat} {w0 w : World} {X : List A}
theorem Dr.ow (h : Dr p a F w0 w X) : Ow (drK p a) F w0 w X := by
  obtain ⟨D, h1, h2, hT⟩ := h
  exact ⟨_, ⟨D, h1, h2, rfl⟩, hT⟩
theorem Ow.dr (h : Ow (drK p a) F w0 w X) : Dr p a F w0 w X := by
  obtain ⟨Y, ⟨D, h1, h2, rfl⟩, hT⟩ := h
  exact ⟨D, h1, h2, hT⟩
end
/-- a drive, or none -/
abbrev Od := Option (Nat × AD)
def odK : Od → Kd
  | none => noK
  | some x => drK x.1 x.2
abbrev dsK (l : List Od) : Kd := allK odK l
def odV (x : Od) : Value := .pointer (x.map fun y => ⟨y.1, 0, none⟩)
def dptrs (l : List Od) : List Value := l.map odV
theorem dptrs_len (l : List Od) : (dptrs l).length = l.length := List.length_map ..
theorem dptrs_get {l : List Od} {k : Nat} {x : Od} (h : l[k]? = some x) : (dptrs l)[k]? = some (odV x) := by simp [dptrs, h]
section
variable {l : List Od} {k p : Nat} {a : AD} {F : List Nat} {w0 w : World} {X : List A}
/-- one drive of many -/
theorem Ow.drive (H : Ow (dsK l) F w0 w X) (hk : l[k]? = some (some (p, a))) : ∃ Z, Dr p a F w0 w (X ++ Z) ∧ ∀ {a' : AD} {F' : List Nat} {w0' w' : World} {X' : List A}, Dr p a' F' w0' w' (X' ++ Z) → Ow (dsK (l.set k (some (p, a')))) F' w0' w' X' := by
  obtain ⟨Z, h1, h2⟩ := Ow.at hk H
  exact ⟨Z, Ow.dr h1, fun {a' F' w0' w' X'} h' => h2 (x' := some (p, a')) (Dr.ow h')⟩
theorem set_get_same {α : Type} {l : List α} {k : Nat} {x : α} (h : l[k]? = some x) : l.set k x = l := by
  obtain ⟨hk, he⟩ := List.getElem?_eq_some_iff.1 h
  rw [← he, List.set_getElem_self]
/-- a call on one drive of many -/
theorem Ow.onDrive {P : Program} {f : FuncId} {args : Array Value} {v : Value} {b : AD} (H : Ow (dsK l) F w0 w X) (hk : l[k]? = some (some (p, a)))
    (hc : ∀ Z, Dr p a F w0 w (X ++ Z) → Calls P f args w fun e w' => e = .returned v ∧ Dr p b F w0 w' (X ++ Z)) : Calls P f args w fun e w' => e = .returned v ∧ Ow (dsK (l.set k (some (p, b)))) F w0 w' X := by
  obtain ⟨Z, h1, h2⟩ := Ow.drive H hk
  exact (hc Z h1).mono fun e w' ⟨he, h'⟩ => ⟨he, h2 h'⟩
end
theorem getD_mem_or {α : Type} (l : List α) (j : Nat) (d : α) : l.getD j d ∈ l ∨ l.getD j d = d := by
  by_cases h : j < l.length
  · exact .inl (by simp [List.getD, h])
  · exact .inr (by simp [List.getD, List.getElem?_eq_none (Nat.le_of_not_lt h)])
/-- what a drive holds is no longer than a sector -/
theorem Dr.top_size {p : Nat} {a : AD} {F : List Nat} {w0 w : World} {X : List A} (h : Dr p a F w0 w X) (i : Nat) : (a.top i).size ≤ 64 := by
  obtain ⟨D, _, hA, _⟩ := h
  have hs : ∀ s ∈ a.safe, s.size = 64 := by rw [← hA.safe]; exact hA.ok.s64
  have hp : ∀ s ∈ a.pend i, s.size = 64 := by
    rw [← hA.pend i]
    unfold pendW
    cases hf : D.ws.find? fun e => e.k == (i : Int) with
    | none => intro s hs; cases hs
    | some e => exact hA.ok.w64 e (List.mem_of_find?_eq_some hf)
  unfold AD.top
  split
  · rename_i s he
    have := hp s (List.mem_of_getLast? he)
    omega
  · rcases getD_mem_or a.safe i noB with h | h
    · have := hs _ h; omega
    · rw [h]; show 0 ≤ 64; omega
theorem Dr.read_size {p : Nat} {a : AD} {F : List Nat} {w0 w : World} {X : List A} (h : Dr p a F w0 w X) (i : Int) : (a.read i).1.size ≤ 64 := by
  unfold AD.read
  split
  · show 0 ≤ 64; omega
  · split
    · show 0 ≤ 64; omega
    · exact h.top_size _
/-- pointers to blocks, or to none -/
def pv (x : Option Nat) : Value := .pointer (ptr x)
def ptrsV (ps : List (Option Nat)) : List Value := ps.map pv
theorem ptrsV_get {ps : List (Option Nat)} {k : Nat} {x : Option Nat} (h : ps[k]? = some x) : (ptrsV ps)[k]? = some (pv x) := by simp [ptrsV, h]
theorem ptrsV_len (ps : List (Option Nat)) : (ptrsV ps).length = ps.length := List.length_map ..
def odB (x : Od) : Option Nat := x.map fun y => y.1
/-- the blocks of drives -/
def blks (l : List Od) : List (Option Nat) := l.map odB
theorem blks_len (l : List Od) : (blks l).length = l.length := List.length_map ..
theorem blks_get {l : List Od} {k : Nat} {x : Od} (h : l[k]? = some x) : (blks l)[k]? = some (odB x) := by simp [blks, h]
theorem blks_set {l : List Od} {k p : Nat} {a b : AD} (h : l[k]? = some (some (p, a))) : blks (l.set k (some (p, b))) = blks l := by
  unfold blks
  rw [List.map_set]
  exact set_get_same (by simp [h, odB])
/-- a pointer of a row of them -/
theorem Ow.pcell {h : Kd} {F : List Nat} {w0 w : World} {X : List A} {t : TypeId} {g : Option Nat} {n cap : Nat} {ps : List (Option Nat)} (H : Ow h F w0 w X) (hm : rowP t 1 g n cap (ptrsV ps) ∈ X) {k : Nat} (hk : k < ps.length) : ∃ b, g = some b ∧ w.cell? (Addr.add ⟨b, 0, none⟩ (k * 1)) = some (.pointer (ptr (ps.getD k none))) := by
  have hs := H.under.says hm
  have hl : (ptrsV ps).length = n * 1 := rowP.len hs
  rw [ptrsV_len] at hl
  obtain ⟨b, rfl⟩ := rowP.pos hs (by omega)
  refine ⟨b, rfl, ?_⟩
  rw [addr_add, Nat.zero_add, Nat.mul_one]
  have : ps[k]? = some (ps.getD k none) := by simp [List.getD, hk]
  exact rowP.cell hs (ptrsV_get this)
/-- few writes are pending on each -/
def FewL (l : List Od) (N : Nat) : Prop := ∀ q a, some (q, a) ∈ l → a.Few N
theorem FewL.mono {l : List Od} {N M : Nat} (h : FewL l N) (hm : N ≤ M) : FewL l M := fun q a hq => (h q a hq).mono hm
end Go.Proofs.YtmipjkalfodcpaaDoor
end
section
/-! pages: Encode, Decode, Save, Load. -/
namespace Go.Proofs.YtmipjkalfodcpaaDoor
open Go.Sh Go.RowKit
set_option linter.unusedVariables false
set_option linter.unusedSimpArgs false
set_option maxRecDepth 20000
set_option maxHeartbeats 1000000
def pgC (p : PgV) : Array Value := #[.int .u64 (p.ev : Int), .string (strB p.bits)]
theorem wid8 : Wid [8] := ⟨by decide, by decide⟩
theorem fit8 {n : Nat} (h : n < 2 ^ 64) : ∀ (i m x : Nat), [n][i]? = some m → [8][i]? = some x → m < 256 ^ x := fun i m x hm hx => by
  match i, hm, hx with
  | 0, hm, hx =>
    cases hm; cases hx
    have e : (256 : Nat) ^ 8 = 2 ^ 64 := by decide
    omega
  | i + 1, hm, _ => simp at hm
theorem encP8 (n : Nat) : encP [n] [8] = leB n 8 := by simp [encP]
theorem pencode_spec {p : PgV} (he : p.ev < 2 ^ 64) (hb : p.bits.length ≤ 1000000) (w : World) : Ret Tryd.prog 7 #[.agg (pgC p)] w (.tuple #[.string (strB (encPgF p).1), .int .i64 (encPgF p).2]) := by
  refine ret_of (pages_Encode_calls ?_)
  unfold pages_Encode
  refine Alloc.t (T.nil w) fun k1 w1 h1 => ⟨_, h1.ld (b := k1) (by repeat (first | exact List.Mem.head _ | refine List.Mem.tail _ ?_)) rfl, bne_t fun hne => ?_, bne_f fun heq => ?_⟩
  · rw [strB_size] at hne
    unfold encPgF
    rw [if_neg (by omega)]
    exact ⟨rfl, h1.chg.ext⟩
  rw [strB_size] at heq
  have h8 : p.bits.length = 8 := by omega
  refine ⟨_, h1.ld (b := k1) (by repeat (first | exact List.Mem.head _ | refine List.Mem.tail _ ?_)) rfl, Alloc.t h1 fun k15 w2 h2 => ?_⟩
  have h2 : T [] w w2 (rowP 22 1 (some k15) 1 1 (u64s [p.ev]) :: [blk k1 (pgC p) 24]) := blk_row h2 rfl rfl (by decide)
  refine Alloc.t h2 fun k16 w3 h3 => ?_
  have h3 : T [] w w3 (rowP 3 1 (some k16) 1 1 (ints [8]) :: rowP 22 1 (some k15) 1 1 (u64s [p.ev]) :: [blk k1 (pgC p) 24]) := blk_row h3 rfl rfl (by decide)
  refine (encode_spec (ns := [p.ev]) (ws := [8]) wid8 rfl (fit8 he) h3 (g1 := some k15) (g2 := some k16) (n1 := 1) (n2 := 1) (c1 := 1) (c2 := 1) rfl rfl (by repeat (first | exact List.Mem.head _ | refine List.Mem.tail _ ?_)) (by repeat (first | exact List.Mem.head _ | refine List.Mem.tail _ ?_))).mono fun e w4 ⟨he', h4⟩ => ⟨_, _, he', ?_⟩
  rw [encP8]
  have e4 : (ByteArray.mk #[82, 86, 84, 66]) = strB magB := rfl
  have l8 := leB_len p.ev 8
  rw [e4, strB_size, strB_size, strB_append]
  refine ⟨by rw [l8]; decide, _, h4.ld (b := k1) (i := 1) (by repeat (first | exact List.Mem.head _ | refine List.Mem.tail _ ?_)) rfl, by rw [strB_size, strB_size, List.length_append, l8, h8]; decide, ?_⟩
  rw [strB_append]
  have hl : (magB ++ leB p.ev 8 ++ p.bits).length = 20 := by simp [magB, l8, h8]
  refine (seal_spec (strB (magB ++ leB p.ev 8 ++ p.bits)) 64 (by rw [strB_size, hl]; omega) (by omega) w4).mono fun e w5 ⟨he5, hx5⟩ => ⟨_, _, he5, ?_, h4.chg.ext.trans hx5⟩
  unfold encPgF
  rw [if_pos h8]; rfl
theorem take_mid (b : List UInt8) (m n : Nat) (h : m + n ≤ 60) : (((b.take 60).drop m).take n) = (b.drop m).take n := by
  rw [List.drop_take, List.take_take, Nat.min_eq_left (by omega)]
theorem pdecode_spec (s : ByteArray) (hs : s.size ≤ 1000000) (w : World) : Ret Tryd.prog 9 #[.string s] w (.tuple #[.agg (pgC (decPg s.data.toList).1), .int .i64 (decPg s.data.toList).2]) := by
  refine ret_of (pages_Decode_calls ?_)
  unfold pages_Decode
  obtain ⟨b, rfl⟩ : ∃ b, s = strB b := ⟨s.data.toList, (strB_list s).symm⟩
  rw [strB_size] at hs ⊢
  have eb : (strB b).data.toList = b := rfl
  rw [eb]
  refine Alloc.t (T.nil w) fun k2 w1 h1 => ?_
  have bad : ∀ (w' : World) (Γ : List A) (x : Int), T [] w w' Γ → (∃ Δ, Γ.Perm (blk k2 (pgC pgZ) 24 :: Δ)) → decPg b = (pgZ, x) →
      St ⟨k2, 0, none⟩ (.int .u64 0) w' fun w2 => St ⟨k2, 1, none⟩ (.string (ByteArray.mk #[])) w2 fun w3 => ∃ nr2_0 : Int, ∃ sr2_1 : ByteArray, (w3.cell? ⟨k2, 0, none⟩ = some (.int .u64 nr2_0) ∧ w3.cell? ⟨k2, 1, none⟩ = some (.string sr2_1)) ∧
        RetR w (.tuple #[.agg (pgC (decPg b).1), .int .i64 (decPg b).2]) (.tuple #[.agg #[.int .u64 nr2_0, .string sr2_1], .int .i64 x]) w3 := by
    rintro w' Γ x hT ⟨Δ, hp⟩ hd
    have hT := hT.swap hp
    refine St.t (c' := pgC pgZ) hT .head (show 0 < 2 by decide) rfl rfl fun w2 h2 => St.t (c' := pgC pgZ) h2 .head (show 1 < 2 by decide) rfl rfl fun w3 h3 => ?_
    refine ⟨_, _, ⟨h3.ld (b := k2) (by repeat (first | exact List.Mem.head _ | refine List.Mem.tail _ ?_)) rfl, h3.ld (b := k2) (i := 1) (by repeat (first | exact List.Mem.head _ | refine List.Mem.tail _ ?_)) rfl⟩, ?_, h3.chg.ext⟩
    rw [hd]; rfl
  refine ⟨bne_t fun hne => ?_, bne_f fun heq => ?_⟩
  · refine bad w1 _ 31 h1 ⟨_, .refl _⟩ ?_
    unfold decPg; rw [if_pos (by omega)]
  have h64 : b.length = 64 := by omega
  refine (open_spec (strB b) (by rw [strB_size]; omega) w1).mono fun e w4 ⟨he4, hx4⟩ => ⟨_, _, he4, ?_⟩
  rw [eb]
  have h4 := h1.quiet hx4
  refine ⟨not_t fun ho => ?_, not_f fun ho => ?_⟩
  · refine bad w4 _ 80 h4 ⟨_, .refl _⟩ ?_
    unfold decPg; rw [if_neg (by omega), if_pos ho]
  have hop : (openB b).1 = b.take 60 := by
    unfold openB at ho ⊢
    rw [h64] at ho ⊢
    rw [if_neg (by omega)] at ho ⊢
    split at ho
    · rename_i hq; rw [if_pos hq]
    · cases ho
  rw [hop]
  have hl60 : (b.take 60).length = 60 := by rw [List.length_take]; omega
  have e4 : (ByteArray.mk #[82, 86, 84, 66]) = strB magB := rfl
  rw [e4]
  have hpre : (b.take 60).take magB.length = b.take 4 := by rw [List.take_take]; rfl
  refine (cutPrefix_spec (b.take 60) magB (by omega) w4).mono fun e w7 ⟨he7, hx7⟩ => ?_
  have h7 := h4.quiet hx7
  unfold cutV at he7
  rw [hpre] at he7
  by_cases hm : b.take 4 = magB
  rotate_left
  · rw [if_neg hm] at he7
    refine ⟨_, _, he7, yes rfl (bad w7 _ 81 h7 ⟨_, .refl _⟩ ?_)⟩
    unfold decPg; rw [if_neg (by omega), if_neg (by rw [ho]; decide), if_pos hm]
  rw [if_pos hm] at he7
  have hd4 : (b.take 60).drop magB.length = (b.take 60).drop 4 := rfl
  rw [hd4] at he7
  refine ⟨_, _, he7, no rfl ?_⟩
  have hl56 : ((b.take 60).drop 4).length = 56 := by rw [List.length_drop]; omega
  have s1 := slice_from (P := Tryd.prog) (t := 9) (k := .i64) (s := strB ((b.take 60).drop 4)) (lo := 16) (w := w7) (by kernel_rfl) (by omega) (by rw [strB_size, hl56]; omega)
  rw [strB_extract, strB_size, hl56] at s1
  have e1 : ((((b.take 60).drop 4).drop (16 : Int).toNat).take (56 - (16 : Int).toNat)) = (b.take 60).drop 20 := by
    rw [show (16 : Int).toNat = 16 from rfl, List.drop_drop]
    exact List.take_of_length_le (by rw [List.length_drop]; omega)
  rw [e1] at s1
  refine ⟨_, w7, s1, ?_⟩
  have e0 : (ByteArray.mk #[0]) = strB [0] := rfl
  have en : (ByteArray.mk #[]).toList = [] := strB_toList []
  rw [e0, en]
  refine (trim_spec ((b.take 60).drop 20) (by rw [List.length_drop]; omega) w7).mono fun e w11 ⟨m, he11, hmz, hx11⟩ => ⟨_, he11, ?_⟩
  have h11 := h7.quiet hx11
  rw [strB_toList]
  refine ⟨fun hne => ?_, fun heq => ?_⟩
  · have hne : m ≠ [] := by simpa using hne
    refine bad w11 _ 1 h11 ⟨_, .refl _⟩ ?_
    unfold decPg; rw [if_neg (by omega), if_neg (by rw [ho]; decide), if_neg (by simpa using hm), if_pos (fun hh => hne (hmz.2 hh))]
  have heq : m = [] := by simpa using heq
  have hdec : decPg b = (⟨leN ((b.drop 4).take 8), (b.drop 12).take 8⟩, 0) := by
    unfold decPg; rw [if_neg (by omega), if_neg (by rw [ho]; decide), if_neg (by simpa using hm), if_neg (fun hn => hn (hmz.1 heq))]
  have s2 := slice_to (P := Tryd.prog) (t := 9) (k := .i64) (s := strB ((b.take 60).drop 4)) (hi := 8) (w := w11) (by kernel_rfl) (by omega) (by rw [strB_size, hl56]; omega)
  rw [strB_extract, List.drop_zero] at s2
  have e2 : (((b.take 60).drop 4).take ((8 : Int).toNat - 0)) = (b.drop 4).take 8 := take_mid b 4 8 (by omega)
  rw [e2] at s2
  refine ⟨_, w11, s2, Alloc.t h11 fun k38 w15 h15 => ?_⟩
  have h15 : T [] w w15 (rowP 3 1 (some k38) 1 1 (ints [8]) :: [blk k2 (pgC pgZ) 24]) := blk_row h15 rfl rfl (by decide)
  have hl8 : ((b.drop 4).take 8).length = 8 := by rw [List.length_take, List.length_drop]; omega
  refine (decode_spec (ws := [8]) wid8 (s := strB ((b.drop 4).take 8)) (by rw [strB_size, hl8]; rfl) h15 (g2 := some k38) (n2 := 1) (c2 := 1) rfl (by repeat (first | exact List.Mem.head _ | refine List.Mem.tail _ ?_))).mono fun e w16 ⟨b39, he16, h16⟩ => ⟨_, _, _, _, he16, no rfl ?_⟩
  have e8 : decP (strB ((b.drop 4).take 8)).data.toList [8] = [leN ((b.drop 4).take 8)] := by
    show [leN (((b.drop 4).take 8).take 8)] = _
    rw [List.take_take, Nat.min_self]
  rw [e8] at h16
  have h16 : T [] w w16 (rowP 22 1 (some b39) 1 1 (u64s [leN ((b.drop 4).take 8)]) :: rowP 3 1 (some k38) 1 1 (ints [8]) :: [blk k2 (pgC pgZ) 24]) := h16
  refine ⟨fun w' => ∃ Δ, rowP 22 1 (some b39) 1 1 (u64s [leN ((b.drop 4).take 8)]) ∈ Δ ∧ T [] w w' Δ, ⟨_, (by repeat (first | exact List.Mem.head _ | refine List.Mem.tail _ ?_)), h16.drew⟩, ⟨b39, 0, none⟩, rfl, by omega, by simp, (leN ((b.drop 4).take 8) : Int), fun w' ⟨Δ, hm', h'⟩ => rowP.cell (k := 0) (h'.says hm') rfl, ?_⟩
  refine ⟨strB ((b.drop 12).take 8), fun w' _ => ?_, ?_⟩
  · have s3 := slice_mid (P := Tryd.prog) (t := 9) (k := .i64) (k' := .i64) (s := strB ((b.take 60).drop 4)) (lo := 8) (hi := 16) (w := w') (by kernel_rfl) (by omega) (by omega) (by rw [strB_size, hl56]; omega)
    rw [strB_extract] at s3
    have e3 : ((((b.take 60).drop 4).drop (8 : Int).toNat).take ((16 : Int).toNat - (8 : Int).toNat)) = (b.drop 12).take 8 := by
      rw [show (8 : Int).toNat = 8 from rfl, List.drop_drop]
      exact take_mid b 12 8 (by omega)
    rw [e3] at s3
    exact s3
  refine St.t (c := pgC pgZ) (c' := #[.int .u64 (leN ((b.drop 4).take 8) : Int), .string (ByteArray.mk #[])]) h16.drew (by repeat (first | exact Turn.head | apply Turn.tail)) (show 0 < 2 by decide) rfl rfl fun w19 h19 => ?_
  refine St.t (c := #[.int .u64 (leN ((b.drop 4).take 8) : Int), .string (ByteArray.mk #[])]) (c' := pgC ⟨leN ((b.drop 4).take 8), (b.drop 12).take 8⟩) h19 (by repeat (first | exact Turn.head | apply Turn.tail)) (show 1 < 2 by decide) rfl rfl fun w20 h20 => ⟨⟨_, (by repeat (first | exact List.Mem.head _ | refine List.Mem.tail _ ?_)), h20⟩, _, _, ⟨h20.ld (b := k2) (c := pgC ⟨leN ((b.drop 4).take 8), (b.drop 12).take 8⟩) (by repeat (first | exact List.Mem.head _ | refine List.Mem.tail _ ?_)) rfl, h20.ld (b := k2) (c := pgC ⟨leN ((b.drop 4).take 8), (b.drop 12).take 8⟩) (i := 1) (by repeat (first | exact List.Mem.head _ | refine List.Mem.tail _ ?_)) rfl⟩, ?_, h20.chg.ext⟩
  rw [hdec]; rfl
section
variable {q : Nat} {a : AD} {F : List Nat} {w0 w : World} {X : List A}
theorem AD.read_size {a : AD} (h : ∀ i, (a.top i).size ≤ 64) (i : Int) : (a.read i).1.size ≤ 64 := by
  unfold AD.read
  split
  · show 0 ≤ 64; omega
  · split
    · show 0 ≤ 64; omega
    · exact h _
theorem pload_spec (h : Dr q a F w0 w X) (hF : a.Few 1000000) (hr : (a.read 2).1.size ≤ 1000000) : Ret Tryd.prog 17 #[.pointer (some ⟨q, 0, none⟩)] w (.tuple #[.agg (pgC (loadPg a).1), .int .i64 (loadPg a).2]) := by
  refine ret_of (pages_Load_calls ?_)
  unfold pages_Load
  obtain ⟨D, hD⟩ : ∃ Γ, Γ = (T.nil w) := ⟨_, rfl⟩
  refine Alloc.t (T.nil w) fun k2 w1 h1 => ?_
  refine (read_a (h.quiet h1.chg.ext) hF 2).mono fun e w2 ⟨he, hx⟩ => ⟨_, _, he, bne_t fun hne => ?_, bne_f fun heq => ?_⟩
  · have h2 := h1.quiet hx
    refine St.t (c' := pgC pgZ) h2 .head (show 0 < 2 by decide) rfl rfl fun w3 h3 => St.t (c' := pgC pgZ) h3 .head (show 1 < 2 by decide) rfl rfl fun w4 h4 => ?_
    refine ⟨_, _, ⟨h4.ld (b := k2) (by repeat (first | exact List.Mem.head _ | refine List.Mem.tail _ ?_)) rfl, h4.ld (b := k2) (i := 1) (by repeat (first | exact List.Mem.head _ | refine List.Mem.tail _ ?_)) rfl⟩, ?_, h4.chg.ext⟩
    unfold loadPg; rw [if_pos hne]; rfl
  · have h2 := h1.quiet hx
    refine (pdecode_spec (a.read 2).1 hr w2).mono fun e w5 ⟨he5, hx5⟩ => ⟨_, _, _, he5, ?_⟩
    have h5 := h2.quiet hx5
    refine St.t (c' := #[.int .u64 ((decPg (a.read 2).1.data.toList).1.ev : Int), .string (ByteArray.mk #[])]) h5 .head (show 0 < 2 by decide) rfl rfl fun w3 h3 => St.t (c' := pgC (decPg (a.read 2).1.data.toList).1) h3 .head (show 1 < 2 by decide) rfl rfl fun w4 h4 => ?_
    refine ⟨_, _, ⟨h4.ld (b := k2) (c := pgC (decPg (a.read 2).1.data.toList).1) (by repeat (first | exact List.Mem.head _ | refine List.Mem.tail _ ?_)) rfl, h4.ld (b := k2) (c := pgC (decPg (a.read 2).1.data.toList).1) (i := 1) (by repeat (first | exact List.Mem.head _ | refine List.Mem.tail _ ?_)) rfl⟩, ?_, h4.chg.ext⟩
    unfold loadPg; rw [if_neg (by omega)]; rfl
theorem psave_d (h : Dr q a F w0 w X) (hF : a.Few 999999) {p : PgV} (he : p.ev < 2 ^ 64) (hb : p.bits.length ≤ 1000000) :
    Calls Tryd.prog 12 #[.pointer (some ⟨q, 0, none⟩), .agg (pgC p)] w fun e w' => e = .returned (.int .i64 (savePg a p).2) ∧ Dr q (savePg a p).1 F w0 w' X := by
  refine (pages_Save_calls (R := fun v w' => v = .int .i64 (savePg a p).2 ∧ Dr q (savePg a p).1 F w0 w' X) ?_).mono fun e w' ⟨v, he, hv, hd⟩ => ⟨by rw [he, hv], hd⟩
  unfold pages_Save
  refine h.alloc fun k2 w1 h1 => h1.alloc fun k3 w2 h2 => ⟨_, _, ⟨h2.under.ld (b := k3) (c := pgC p) (by repeat (first | exact List.Mem.head _ | refine List.Mem.tail _ ?_)) rfl, h2.under.ld (b := k3) (c := pgC p) (i := 1) (by repeat (first | exact List.Mem.head _ | refine List.Mem.tail _ ?_)) rfl⟩, ?_⟩
  refine (pencode_spec he hb w2).mono fun e w3 ⟨he3, hx3⟩ => ⟨_, _, he3, ?_⟩
  refine (h2.quiet hx3).alloc fun k5 w4 h4 => h4.st1 (c' := #[.string (strB (encPgF p).1)]) (show 0 < 1 by decide) rfl rfl fun w5 h5 => h5.alloc fun k16 w6 h6 => ?_
  have hF' : a.Few 1000000 := hF.mono (by decide)
  have f0 : ∀ w', (∃ a', Dr q a' F w0 w' (blk k16 #[.func (.func 28) #[] #[.pointer (some ⟨k2, 0, none⟩), .pointer (some ⟨k5, 0, none⟩)], .func (.func 30) #[] #[.pointer (some ⟨k2, 0, none⟩)]] 65 :: blk k5 #[.string (strB (encPgF p).1)] 9 :: blk k3 (pgC p) 24 :: blk k2 #[.pointer (some ⟨q, 0, none⟩)] 39 :: X)) → w'.cell? ⟨k16, 0, none⟩ = some (.func (.func 28) #[] #[.pointer (some ⟨k2, 0, none⟩), .pointer (some ⟨k5, 0, none⟩)]) ∧ w'.cell? ⟨k16, 1, none⟩ = some (.func (.func 30) #[] #[.pointer (some ⟨k2, 0, none⟩)]) :=
    fun w' ⟨a', h'⟩ => ⟨h'.under.ld (b := k16) (by repeat (first | exact List.Mem.head _ | refine List.Mem.tail _ ?_)) rfl, h'.under.ld (b := k16) (i := 1) (by repeat (first | exact List.Mem.head _ | refine List.Mem.tail _ ?_)) rfl⟩
  have fin : ∀ a' x w', savePg a p = (a', x) → Dr q a' F w0 w' (blk k16 #[.func (.func 28) #[] #[.pointer (some ⟨k2, 0, none⟩), .pointer (some ⟨k5, 0, none⟩)], .func (.func 30) #[] #[.pointer (some ⟨k2, 0, none⟩)]] 65 :: blk k5 #[.string (strB (encPgF p).1)] 9 :: blk k3 (pgC p) 24 :: blk k2 #[.pointer (some ⟨q, 0, none⟩)] 39 :: X) → Value.int .i64 x = .int .i64 (savePg a p).2 ∧ Dr q (savePg a p).1 F w0 w' X :=
    fun a' x w' hs h' => by rw [hs]; exact ⟨rfl, h'.dropX.dropX.dropX.dropX⟩
  refine ⟨fun vs w' => ∃ (i : Nat) (x : Int) (a' : AD), vs = [.int .i64 x, .int .i64 (i : Int)] ∧ i ≤ 2 ∧ Dr q a' F w0 w' (blk k16 #[.func (.func 28) #[] #[.pointer (some ⟨k2, 0, none⟩), .pointer (some ⟨k5, 0, none⟩)], .func (.func 30) #[] #[.pointer (some ⟨k2, 0, none⟩)]] 65 :: blk k5 #[.string (strB (encPgF p).1)] 9 :: blk k3 (pgC p) 24 :: blk k2 #[.pointer (some ⟨q, 0, none⟩)] 39 :: X) ∧
      ((i = 0 ∧ a' = a ∧ x = (encPgF p).2) ∨ (i = 1 ∧ x = 0 ∧ p.bits.length = 8 ∧ a.put 2 (strB (encPg p)) = 0 ∧ a' = a.write 2 (strB (encPg p))) ∨ (1 ≤ i ∧ x ≠ 0 ∧ savePg a p = (a', x)) ∨ (i = 2 ∧ savePg a p = (a', x))), fun vs _ => match vs with | [_, .int _ i] => (2 - i).toNat | _ => 0, ⟨0, _, a, rfl, by omega, h6, .inl ⟨rfl, rfl, rfl⟩⟩, ?_⟩
  rintro vs w7 ⟨i, x, a', rfl, hi, h7, hc⟩
  refine ⟨_, _, rfl, dec_t fun hlt => ?_, dec_f fun hge => ?_⟩
  rotate_left
  · have hi2 : i = 2 := by omega
    rcases hc with ⟨h0, _⟩ | ⟨h0, _⟩ | ⟨_, _, hs⟩ | ⟨_, hs⟩
    · omega
    · omega
    · exact fin _ _ _ hs h7
    · exact fin _ _ _ hs h7
  have hms : ((2 : Int) - IntKind.i64.wrap ((i : Int) + 1)).toNat < ((2 : Int) - (i : Int)).toNat := by rw [wrap64 _ (by omega) (by omega)]; omega
  have hnx : IntKind.i64.wrap ((i : Int) + 1) = ((i + 1 : Nat) : Int) := by rw [wrap64 _ (by omega) (by omega)]; omega
  obtain ⟨c0, c1⟩ := f0 w7 ⟨a', h7⟩
  rcases hc with ⟨rfl, rfl, rfl⟩ | ⟨rfl, rfl, h8, hput, rfl⟩ | ⟨h1i, hx0, hs⟩ | ⟨rfl, hs⟩
  · refine ⟨⟨k16, 0, none⟩, rfl, by omega, by omega, _, by exact c0, ?_⟩
    by_cases h8 : p.bits.length = 8
    · have ee : encPgF p = (encPg p, 0) := if_pos h8
      rw [ee]
      refine yes rfl (CallF.func (by kernel_rfl) ?_)
      refine (pages_Save_1_calls (R := fun v w' => v = .int .i64 (a'.put 2 (strB (encPg p))) ∧ Dr q (a'.write 2 (strB (encPg p))) F w0 w' _) ?_).mono fun e w' ⟨v, he, hv, hd⟩ => ⟨a'.put 2 (strB (encPg p)), by rw [he, hv], ⟨_, _, _, by rw [hnx], by omega, hd, ?_⟩, hms⟩
      · unfold pages_Save_1
        rw [ee] at h7
        refine ⟨_, h7.under.ld (b := k2) (by repeat (first | exact List.Mem.head _ | refine List.Mem.tail _ ?_)) rfl, _, h7.under.ld (b := k5) (by repeat (first | exact List.Mem.head _ | refine List.Mem.tail _ ?_)) rfl, ?_⟩
        exact (write_a h7 hF' 2 (strB (encPg p))).mono fun e w' ⟨he, hd⟩ => ⟨_, he, rfl, hd⟩
      · by_cases hp : a'.put 2 (strB (encPg p)) = 0
        · exact .inr (.inl ⟨rfl, hp, h8, hp, rfl⟩)
        · refine .inr (.inr (.inl ⟨by omega, hp, ?_⟩))
          have hw : a'.write 2 (strB (encPg p)) = a' := by unfold AD.write; rw [if_pos hp]
          rw [hw]
          unfold savePg; rw [if_neg (by omega), if_pos hp]
    · have ee : encPgF p = ([], 1) := if_neg h8
      refine no (by rw [ee]; rfl) ⟨⟨_, _, _, by rw [hnx], by omega, h7, .inr (.inr (.inl ⟨by omega, by rw [ee]; decide, ?_⟩))⟩, hms⟩
      unfold savePg; rw [if_pos h8, ee]
  · refine ⟨⟨k16, 0, none⟩, rfl, by omega, by omega, _, by exact c1, yes rfl (CallF.func (by kernel_rfl) ?_)⟩
    have hFw : (a.write 2 (strB (encPg p))).Few 1000000 := hF.write _ _
    refine (pages_Save_2_calls (R := fun v w' => v = .int .i64 (a.write 2 (strB (encPg p))).flush1 ∧ Dr q (a.write 2 (strB (encPg p))).flush F w0 w' _) ?_).mono fun e w' ⟨v, he, hv, hd⟩ => ⟨(a.write 2 (strB (encPg p))).flush1, by rw [he, hv], ⟨_, _, _, by rw [hnx], by omega, hd, .inr (.inr (.inr ⟨rfl, ?_⟩))⟩, hms⟩
    · unfold pages_Save_2
      refine ⟨_, h7.under.ld (b := k2) (by repeat (first | exact List.Mem.head _ | refine List.Mem.tail _ ?_)) rfl, ?_⟩
      exact (flush_a h7 hFw).mono fun e w' ⟨he, hd⟩ => ⟨_, he, rfl, hd⟩
    · unfold savePg; rw [if_neg (by omega), if_neg (by omega)]
  · have hi1 : i = 1 := by omega
    subst hi1
    refine ⟨⟨k16, 0, none⟩, rfl, by omega, by omega, _, by exact c1, no (by simpa using hx0) ⟨⟨_, _, _, by rw [hnx], by omega, h7, .inr (.inr (.inl ⟨by omega, hx0, hs⟩))⟩, hms⟩⟩
  · omega
end
end Go.Proofs.YtmipjkalfodcpaaDoor
end
section
/-! pages: drives, All, Join. -/
namespace Go.Proofs.YtmipjkalfodcpaaDoor
open Go.Sh Go.RowKit
set_option linter.unusedVariables false
set_option linter.unusedSimpArgs false
set_option maxRecDepth 20000
set_option maxHeartbeats 1000000
section
variable {F : List Nat} {w0 : World}
theorem drives1_spec {ps : List (Option Nat)} {g : Option Nat} {cap c k1 : Nat} {h : Nat → Kd} {X : Nat → List A} {x y : A} {yv : Value} (hl : ps.length ≤ 1000000)
    (hm1 : ∀ k, blk k1 #[.slice (ptr g) ps.length c] 38 ∈ X k) (hm2 : ∀ k, rowP 39 1 g ps.length cap (ptrsV ps) ∈ X k)
    (hskip : ∀ k W, ps[k]? = some none → Ow (h k) F w0 W (x :: y :: X k) → Ow (h (k + 1)) F w0 W (x :: y :: X (k + 1)))
    (hcall : ∀ k W, (∃ b, ps[k]? = some (some b)) → Ow (h k) F w0 W (x :: y :: X k) → CallF Tryd.prog yv [pv (ps.getD k none)] W fun e w' => e = .returned (.bool true) ∧ Ow (h (k + 1)) F w0 w' (x :: y :: X (k + 1)))
    (W : World) (H : Ow (h 0) F w0 W (x :: y :: X 0)) : Calls Tryd.prog 56 #[yv, .pointer (some ⟨k1, 0, none⟩)] W fun e w' => (∃ v, e = .returned v) ∧ Ow (h ps.length) F w0 w' (x :: y :: X ps.length) := by
  refine (pages_drives_1_calls (R := fun v w' => Ow (h ps.length) F w0 w' (x :: y :: X ps.length)) ?_).mono fun e w' ⟨v, he, h⟩ => ⟨⟨v, he⟩, h⟩
  unfold pages_drives_1
  have inX : ∀ {k : Nat} {a : A}, a ∈ X k → a ∈ x :: y :: X k := fun ha => List.mem_cons_of_mem _ (List.mem_cons_of_mem _ ha)
  refine ⟨_, _, _, H.ld (b := k1) (inX (hm1 0)) rfl, ?_⟩
  refine ⟨fun vs w' => ∃ k : Nat, vs = [.int .i64 (k : Int)] ∧ k ≤ ps.length ∧ Ow (h k) F w0 w' (x :: y :: X k), fun vs _ => match vs with | [.int _ k] => (ps.length - k).toNat | _ => 0, ⟨0, rfl, by omega, H⟩, ?_⟩
  rintro vs w1 ⟨k, rfl, hk, h1⟩
  refine ⟨_, rfl, dec_t fun hlt => ?_, dec_f fun hge => ?_⟩
  · have hlt : k < ps.length := by omega
    have hms : ((ps.length : Int) - IntKind.i64.wrap ((k : Int) + 1)).toNat < ((ps.length : Int) - (k : Int)).toNat := by rw [wrap64 _ (by omega) (by omega)]; omega
    have hnx : IntKind.i64.wrap ((k : Int) + 1) = ((k + 1 : Nat) : Int) := by rw [wrap64 _ (by omega) (by omega)]; omega
    obtain ⟨b, rfl, hc⟩ := Ow.pcell h1 (inX (hm2 k)) hlt
    have hg : ps[k]? = some (ps.getD k none) := by simp [List.getD, hlt]
    refine ⟨⟨b, 0, none⟩, rfl, by omega, by omega, _, by rw [Int.toNat_natCast]; exact hc, ?_⟩
    cases hx : ps.getD k none with
    | none =>
      rw [hx] at hg
      exact no rfl ⟨⟨k + 1, by rw [hnx], by omega, hskip k w1 hg h1⟩, hms⟩
    | some d =>
      have hcl := hcall k w1 ⟨d, by rw [hg, hx]⟩ h1
      rw [hx] at hcl
      refine yes rfl (CallF.mono hcl fun e w2 ⟨he, h2⟩ => ⟨true, he, no rfl ⟨⟨k + 1, by rw [hnx], by omega, h2⟩, hms⟩⟩)
  · have hke : k = ps.length := by omega
    subst hke
    exact h1
theorem drives_spec {h : Kd} {p : Option Addr} {n c : Nat} {w : World} {X : List A} (H : Ow h F w0 w X) : Calls Tryd.prog 32 #[.slice p n c] w fun e w' => ∃ k1, e = .returned (.func (.func 56) #[] #[.pointer (some ⟨k1, 0, none⟩)]) ∧ Ow h F w0 w' (blk k1 #[.slice p n c] 38 :: X) := by
  refine (pages_drives_calls (R := fun v w' => ∃ k1, v = .func (.func 56) #[] #[.pointer (some ⟨k1, 0, none⟩)] ∧ Ow h F w0 w' (blk k1 #[.slice p n c] 38 :: X)) ?_).mono fun e w' ⟨v, he, k1, hv, h⟩ => ⟨k1, by rw [he, hv], h⟩
  unfold pages_drives
  exact H.alloc fun k1 w1 h1 => ⟨k1, rfl, h1⟩
end
/-- a page is saved on a drive, if there is one -/
def svPg (p : PgV) : Od → Od
  | none => none
  | some (q, a) => some (q, (savePg a p).1)
def okPg (p : PgV) : Od → Bool
  | none => false
  | some (q, a) => (savePg a p).2 == 0
/-- on the first k of them -/
def svPgs (p : PgV) (l : List Od) (k : Nat) : List Od := (l.take k).map (svPg p) ++ l.drop k
def cntPg (p : PgV) (l : List Od) (k : Nat) : Nat := ((l.take k).filter (okPg p)).length
theorem svPgs_len (p : PgV) (l : List Od) (k : Nat) : (svPgs p l k).length = l.length := by simp [svPgs]; omega
theorem svPgs_get (p : PgV) (l : List Od) (k : Nat) : (svPgs p l k)[k]? = l[k]? := by
  unfold svPgs
  by_cases hk : k < l.length
  · rw [List.getElem?_append_right (by simp; omega)]
    simp [Nat.min_eq_left (Nat.le_of_lt hk)]
  · rw [List.getElem?_eq_none (l := l) (by omega)]
    exact List.getElem?_eq_none (by simp; omega)
theorem svPgs_next (p : PgV) {l : List Od} {k : Nat} {x : Od} (h : l[k]? = some x) : (svPgs p l k).set k (svPg p x) = svPgs p l (k + 1) := by
  obtain ⟨hk, he⟩ := List.getElem?_eq_some_iff.1 h
  unfold svPgs
  rw [List.set_append_right _ _ (by simp; omega)]
  have : k - ((l.take k).map (svPg p)).length = 0 := by simp; omega
  rw [this, List.drop_eq_getElem_cons hk, List.set_cons_zero, List.take_add_one, h, List.map_append, List.append_assoc]
  rfl
theorem svPgs_skip (p : PgV) {l : List Od} {k : Nat} (h : l[k]? = some none) : svPgs p l (k + 1) = svPgs p l k := by
  rw [← svPgs_next p h]
  exact set_get_same (by rw [svPgs_get]; exact h)
theorem svPgs_zero (p : PgV) (l : List Od) : svPgs p l 0 = l := by simp [svPgs]
theorem svPgs_all (p : PgV) (l : List Od) : svPgs p l l.length = l.map (svPg p) := by simp [svPgs]
theorem cntPg_next (p : PgV) {l : List Od} {k : Nat} {x : Od} (h : l[k]? = some x) : cntPg p l (k + 1) = cntPg p l k + if okPg p x = true then 1 else 0 := by
  unfold cntPg
  rw [List.take_add_one, h, List.filter_append, List.length_append]
  congr 1
  show (List.filter (okPg p) [x]).length = _
  cases hx : okPg p x <;> simp [List.filter, hx]
theorem cntPg_le (p : PgV) (l : List Od) (k : Nat) : cntPg p l k ≤ l.length := by
  unfold cntPg
  exact Nat.le_trans (List.length_filter_le _ _) (by simp; omega)
theorem blks_sv (p : PgV) (l : List Od) (k : Nat) : blks (svPgs p l k) = blks l := by
  have h1 : ∀ x : Od, odB (svPg p x) = odB x := fun x => by cases x <;> rfl
  unfold svPgs blks
  rw [List.map_append, List.map_map]
  have : (odB ∘ svPg p) = odB := by funext x; exact h1 x
  rw [this, ← List.map_append, List.take_append_drop]
def allPg (p : PgV) (l : List Od) : List Od × Int × Int :=
  if p.bits.length = 8 then (l.map (svPg p), (cntPg p l l.length : Int), if cntPg p l l.length = 0 then 60 else 0) else (l, 0, 1)
section
variable {F : List Nat} {w0 : World}
theorem pall_spec {l : List Od} {g : Option Nat} {cap c : Nat} {p : PgV} (hl : l.length ≤ 1000000) (he : p.ev < 2 ^ 64) (hb : p.bits.length ≤ 1000000) (hF : FewL l 999999) {w : World} {X : List A} (H : Ow (dsK l) F w0 w X) (hm : rowP 39 1 g l.length cap (ptrsV (blks l)) ∈ X) :
    Calls Tryd.prog 16 #[.slice (ptr g) l.length c, .agg (pgC p)] w fun e w' => e = .returned (.tuple #[.int .i64 (allPg p l).2.1, .int .i64 (allPg p l).2.2]) ∧ Ow (dsK (allPg p l).1) F w0 w' X := by
  refine (pages_All_calls (R := fun v w' => v = .tuple #[.int .i64 (allPg p l).2.1, .int .i64 (allPg p l).2.2] ∧ Ow (dsK (allPg p l).1) F w0 w' X) ?_).mono fun e w' ⟨v, he, hv, h⟩ => ⟨by rw [he, hv], h⟩
  unfold pages_All
  refine H.alloc fun k3 w1 h1 => ⟨_, _, ⟨h1.ld (b := k3) (c := pgC p) (by repeat (first | exact List.Mem.head _ | refine List.Mem.tail _ ?_)) rfl, h1.ld (b := k3) (c := pgC p) (i := 1) (by repeat (first | exact List.Mem.head _ | refine List.Mem.tail _ ?_)) rfl⟩, ?_⟩
  refine (pencode_spec he hb w1).mono fun e w2 ⟨he2, hx2⟩ => ⟨_, _, he2, ?_⟩
  have h2 := h1.quiet hx2
  by_cases h8 : p.bits.length = 8
  rotate_left
  · have e1 : encPgF p = ([], 1) := if_neg h8
    have e2 : allPg p l = (l, 0, 1) := if_neg h8
    rw [e1, e2]
    exact yes rfl ⟨rfl, h2.dropX⟩
  have e1 : encPgF p = (encPg p, 0) := if_pos h8
  have e2 : allPg p l = (l.map (svPg p), (cntPg p l l.length : Int), if cntPg p l l.length = 0 then 60 else 0) := if_pos h8
  rw [e1, e2]
  refine no rfl (h2.alloc fun k8 w3 h3 => h3.st (c' := #[.int .i64 0]) .head (show 0 < 1 by decide) rfl rfl fun w4 h4 => ?_)
  refine (drives_spec h4).mono fun e w5 ⟨k1, he5, h5⟩ => ⟨_, he5, ?_⟩
  have h5 : Ow (dsK (svPgs p l 0)) F w0 w5 (blk k1 #[.slice (ptr g) l.length c] 38 :: blk k8 #[.int .i64 (cntPg p l 0 : Int)] 3 :: blk k3 (pgC p) 24 :: X) := by rw [svPgs_zero]; exact h5
  have hbl := blks_len l
  refine RangeO.t (by kernel_rfl) (ok := fun k => ∃ b, (blks l)[k]? = some (some b)) (h := fun k => dsK (svPgs p l k)) (X := fun k => blk k1 #[.slice (ptr g) l.length c] 38 :: blk k8 #[.int .i64 (cntPg p l k : Int)] 3 :: blk k3 (pgC p) 24 :: X) (N := l.length) (arg := fun k => [pv ((blks l).getD k none)]) h5 ?_ ?_ ?_
  · intro yv x y hyes W hW
    have := drives1_spec (F := F) (w0 := w0) (ps := blks l) (g := g) (cap := cap) (c := c) (k1 := k1) (h := fun k => dsK (svPgs p l k)) (X := fun k => blk k1 #[.slice (ptr g) l.length c] 38 :: blk k8 #[.int .i64 (cntPg p l k : Int)] 3 :: blk k3 (pgC p) 24 :: X) (x := x) (y := y) (yv := yv) (by omega)
      (fun k => by rw [hbl]; exact List.mem_cons_self) (fun k => by rw [hbl]; exact List.mem_cons_of_mem _ (List.mem_cons_of_mem _ (List.mem_cons_of_mem _ hm))) (fun k W hn h => ?_) (fun k W hk h => hyes k W hk h) W hW
    · rw [hbl] at this; exact this
    · have hln : l[k]? = some none := by
        unfold blks at hn
        rw [List.getElem?_map] at hn
        cases hx : l[k]? with
        | none => rw [hx] at hn; cases hn
        | some x =>
          rw [hx] at hn
          cases x with
          | none => rfl
          | some y => cases hn
      have hc : cntPg p l (k + 1) = cntPg p l k := by rw [cntPg_next p hln]; rfl
      rw [svPgs_skip p hln, hc]; exact h
  · rintro obf ll d k W Φ ⟨b, hk⟩ hW hΦ
    obtain ⟨a, hla⟩ : ∃ a, l[k]? = some (some (b, a)) := by
      unfold blks at hk
      rw [List.getElem?_map] at hk
      cases hx : l[k]? with
      | none => rw [hx] at hk; cases hk
      | some x =>
        rw [hx] at hk
        cases x with
        | none => cases hk
        | some y =>
          have : y.1 = b := by simpa [odB] using hk
          exact ⟨y.2, by rw [← this]⟩
    have hgd : (blks l).getD k none = some b := by rw [List.getD_eq_getElem?_getD, hk]; rfl
    rw [hgd]
    refine ⟨_, rfl, RoundO.t hW (h' := dsK (svPgs p l (k + 1))) (X' := ob d (.deferred (some [])) :: blk k1 #[.slice (ptr g) l.length c] 38 :: blk k8 #[.int .i64 (cntPg p l (k + 1) : Int)] 3 :: blk k3 (pgC p) 24 :: X) hΦ ?_⟩
    intro K B R w6 h6 hK
    refine ⟨_, _, ⟨h6.ld (b := k3) (c := pgC p) (by repeat (first | exact List.Mem.head _ | refine List.Mem.tail _ ?_)) rfl, h6.ld (b := k3) (c := pgC p) (i := 1) (by repeat (first | exact List.Mem.head _ | refine List.Mem.tail _ ?_)) rfl⟩, ?_⟩
    have hFa : a.Few 999999 := hF b a (List.mem_of_getElem? hla)
    refine (Ow.onDrive (k := k) (p := b) (a := a) (b := (savePg a p).1) (v := .int .i64 (savePg a p).2) h6 (by rw [svPgs_get]; exact hla) fun Z hZ => psave_d hZ hFa he hb).mono fun e w7 ⟨he7, h7⟩ => ⟨_, he7, ?_⟩
    have hnx := svPgs_next p hla
    have e7 : (svPgs p l k).set k (some (b, (savePg a p).1)) = svPgs p l (k + 1) := hnx
    rw [e7] at h7
    have hcn := cntPg_next p hla
    have hcl := cntPg_le p l k
    by_cases h0 : (savePg a p).2 = 0
    · have ok : okPg p (some (b, a)) = true := by simp [okPg, h0]
      rw [if_pos ok] at hcn
      rw [h0]
      refine yes rfl ⟨_, h7.ld (b := k8) (by repeat (first | exact List.Mem.head _ | refine List.Mem.tail _ ?_)) rfl, h7.st (c := #[.int .i64 (cntPg p l k : Int)]) (c' := #[.int .i64 (cntPg p l (k + 1) : Int)]) (by repeat (first | exact Turn.head | apply Turn.tail)) (show 0 < 1 by decide) ?_ rfl fun w8 h8 => hK w8 h8⟩
      rw [hcn, wrap64 _ (by omega) (by omega)]; rfl
    · have ok : ¬ okPg p (some (b, a)) = true := by simp [okPg, h0]
      rw [if_neg ok] at hcn
      refine no (by simpa using h0) (hK w7 ?_)
      rw [hcn]; exact h7
  · intro d w9 h9
    refine ⟨_, h9.ld (b := k8) (by repeat (first | exact List.Mem.head _ | refine List.Mem.tail _ ?_)) rfl, ?_⟩
    rw [svPgs_all] at h9
    by_cases hc : cntPg p l l.length = 0
    · rw [hc] at h9 ⊢
      exact yes rfl ⟨h9.got List.mem_cons_self, rfl, h9.putTop.dropX.dropX.dropX.dropX⟩
    · rw [if_neg hc]
      exact no (by simpa using hc) ⟨_, h9.ld (b := k8) (by repeat (first | exact List.Mem.head _ | refine List.Mem.tail _ ?_)) rfl, h9.got List.mem_cons_self, rfl, h9.putTop.dropX.dropX.dropX.dropX⟩
end
end Go.Proofs.YtmipjkalfodcpaaDoor
end
