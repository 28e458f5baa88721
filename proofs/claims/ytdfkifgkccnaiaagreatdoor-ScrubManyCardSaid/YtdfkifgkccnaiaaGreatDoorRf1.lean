import Derived.Test.YtdfkifgkccnaiaaGreatDoorAl2
/-! The reference's gf and syndrome. -/
namespace Go.Proofs.YtdfkifgkccnaiaaGreatDoor
open Go.Sh Go.RowKit
set_option linter.unusedVariables false
set_option linter.unusedSimpArgs false
set_option maxRecDepth 20000
set_option maxHeartbeats 2000000
def bitF (b : UInt8) (i : Nat) : Bool := bits2 .and .i64 (Int.fdiv (b.toNat : Int) (2 ^ i)) 1 == 1
def mAcc (a b : UInt8) : Nat → UInt8
  | 0 => 0
  | i + 1 => if bitF b i then mAcc a b i ^^^ xp i a else mAcc a b i
def bAcc (b : UInt8) : Nat → UInt8
  | 0 => 0
  | i + 1 => if bitF b i then bAcc b i ^^^ ex i else bAcc b i
theorem bAcc_eight (b : UInt8) : bAcc b 8 = b := by
  have h : ∀ n : Fin 256, bAcc (UInt8.ofNat n.1) 8 = UInt8.ofNat n.1 := by decide +kernel
  have := h ⟨b.toNat, b.toNat_lt⟩
  simpa using this
theorem mAcc_eq (a b : UInt8) : ∀ i, mulG a (bAcc b i) = mAcc a b i
  | 0 => mulG_zero a
  | i + 1 => by
    simp only [bAcc, mAcc]
    by_cases h : bitF b i = true
    · rw [if_pos h, if_pos h, mulG_xor', mulG_ex, mAcc_eq a b i]
    · rw [if_neg h, if_neg h, mAcc_eq a b i]
theorem i64_xor (x y : UInt8) : bits2 .xor .i64 (x.toNat : Int) (y.toNat : Int) = ((x ^^^ y).toNat : Int) := by
  have hx := x.toNat_lt; have hy := y.toNat_lt
  unfold bits2
  simp only [IntKind.bits]
  rw [show BitVec.ofInt 64 ((x.toNat : Nat) : Int) = BitVec.ofNat 64 x.toNat by simp, show BitVec.ofInt 64 ((y.toNat : Nat) : Int) = BitVec.ofNat 64 y.toNat by simp]
  have : ((BitVec.ofNat 64 x.toNat ^^^ BitVec.ofNat 64 y.toNat).toNat) = (x ^^^ y).toNat := by
    rw [BitVec.toNat_xor, BitVec.toNat_ofNat, BitVec.toNat_ofNat, UInt8.toNat_xor, Nat.mod_eq_of_lt (by omega), Nat.mod_eq_of_lt (by omega)]
  have h2 := (x ^^^ y).toNat_lt
  show IntKind.i64.wrap (((BitVec.ofNat 64 x.toNat ^^^ BitVec.ofNat 64 y.toNat).toNat : Nat) : Int) = _
  rw [this, wrap64 _ (by omega) (by omega)]
theorem mulR_spec (a b : UInt8) (w : World) : Ret Tryz.prog 55 #[.int .u8 (a.toNat : Int), .int .u8 (b.toNat : Int)] w (.int .u8 ((mulG a b).toNat : Int)) := by
  refine ret_of (revetmentref01_Mul_calls ?_)
  unfold revetmentref01_Mul
  have ha := a.toNat_lt
  have hb := b.toNat_lt
  rw [wrap64 _ (by omega) (by omega), wrap64 _ (by omega) (by omega)]
  have step : ∀ y : UInt8, (256 ≤ IntKind.i64.wrap ((y.toNat : Int) * 2 ^ 1) → bits2 .xor .i64 (IntKind.i64.wrap ((y.toNat : Int) * 2 ^ 1)) 285 = ((xt y).toNat : Int)) ∧ (¬ 256 ≤ IntKind.i64.wrap ((y.toNat : Int) * 2 ^ 1) → IntKind.i64.wrap ((y.toNat : Int) * 2 ^ 1) = ((xt y).toNat : Int)) := by
    have h : ∀ n : Fin 256, (256 ≤ IntKind.i64.wrap (((UInt8.ofNat n.1).toNat : Int) * 2 ^ 1) → bits2 .xor .i64 (IntKind.i64.wrap (((UInt8.ofNat n.1).toNat : Int) * 2 ^ 1)) 285 = ((xt (UInt8.ofNat n.1)).toNat : Int)) ∧ (¬ 256 ≤ IntKind.i64.wrap (((UInt8.ofNat n.1).toNat : Int) * 2 ^ 1) → IntKind.i64.wrap (((UInt8.ofNat n.1).toNat : Int) * 2 ^ 1) = ((xt (UInt8.ofNat n.1)).toNat : Int)) := by decide +kernel
    intro y
    have := h ⟨y.toNat, y.toNat_lt⟩
    simpa using this
  refine ⟨fun vs w' => w' = w ∧ ∃ i : Nat, vs = [.int .i64 ((mAcc a b i).toNat : Int), .int .i64 ((xp i a).toNat : Int), .int .i64 (i : Int)] ∧ i ≤ 8, fun vs _ => match vs with | [_, _, .int _ i] => (8 - i).toNat | _ => 0, ⟨rfl, 0, rfl, by omega⟩, ?_⟩
  rintro vs w1 ⟨rfl, i, rfl, hi⟩
  refine ⟨_, _, _, rfl, dec_t fun hlt => ?_, dec_f fun hge => ?_⟩
  · have hlt : i < 8 := by omega
    refine Join.intro fun J hJ => ?_
    have fin : J [.int .i64 ((mAcc a b (i + 1)).toNat : Int)] w1 := by
      refine hJ _ _ ⟨_, rfl, ?_⟩
      have e1 : IntKind.i64.wrap ((i : Int) + 1) = ((i + 1 : Nat) : Int) := by rw [wrap64 _ (by omega) (by omega)]; rfl
      rw [e1]
      have dn : ((8 : Int) - ((i + 1 : Nat) : Int)).toNat < ((8 : Int) - (i : Int)).toNat := by omega
      refine ⟨dec_t fun h => ⟨⟨rfl, i + 1, ?_, by omega⟩, dn⟩, dec_f fun h => ⟨⟨rfl, i + 1, ?_, by omega⟩, dn⟩⟩
      · rw [(step (xp i a)).1 h]; rfl
      · rw [(step (xp i a)).2 (by omega)]; rfl
    have em : min ((i : Int)).toNat 64 = i := by omega
    rw [em]
    refine ⟨by omega, fun h => ?_, fun h => ?_⟩
    · have hb : bitF b i = true := h
      rw [i64_xor]
      have : mAcc a b (i + 1) = mAcc a b i ^^^ xp i a := if_pos hb
      rw [← this]; exact fin
    · have hb : bitF b i = false := h
      have : mAcc a b (i + 1) = mAcc a b i := if_neg (by rw [hb]; simp)
      rw [← this]; exact fin
  · have hie : i = 8 := by omega
    subst hie
    refine ⟨?_, Ext.refl _⟩
    have h2 := (mAcc a b 8).toNat_lt
    rw [wrap8, ← mAcc_eq, bAcc_eight]
    have h3 := (mulG a b).toNat_lt
    congr 1
    omega
theorem two_ex : (2 : UInt8) = ex 1 := by decide
theorem powR_spec (n : Int) (w : World) : Ret Tryz.prog 56 #[.int .u8 2, .int .i64 n] w (.int .u8 ((exI n).toNat : Int)) := by
  refine ret_of (revetmentref01_Pow_calls ?_)
  unfold revetmentref01_Pow
  refine ⟨beq_t fun h0 => ⟨by rw [h0]; rfl, Ext.refl w⟩, beq_f fun h0 => no rfl (Join.intro fun J hJ => ?_)⟩
  have main : J [.int .i64 (((n % 255).toNat : Nat) : Int)] w := by
    refine hJ _ _ ⟨_, rfl, ?_⟩
    unfold exI
    have h255 : (n % 255).toNat < 255 := by omega
    generalize (n % 255).toNat = k at h255
    refine ⟨fun vs w' => Ext w w' ∧ ∃ i : Nat, vs = [.int .u8 ((ex i).toNat : Int), .int .i64 (i : Int)] ∧ i ≤ k, fun vs _ => match vs with | [_, .int _ i] => (k - i).toNat | _ => 0, ⟨Ext.refl w, 0, rfl, by omega⟩, ?_⟩
    rintro vs w1 ⟨hx, i, rfl, hi⟩
    refine ⟨_, _, rfl, dec_t fun hlt => ?_, dec_f fun hge => ?_⟩
    · refine (mulR_spec (ex i) 2 w1).mono fun e w2 ⟨he, hx2⟩ => ⟨_, he, ⟨hx.trans hx2, i + 1, ?_, by omega⟩, ?_⟩
      · rw [wrap64 _ (by omega) (by omega), two_ex, mulG_ex]; rfl
      · show ((k : Int) - IntKind.i64.wrap ((i : Int) + 1)).toNat < ((k : Int) - (i : Int)).toNat
        rw [wrap64 _ (by omega) (by omega)]; omega
    · have hie : i = k := by omega
      subst hie
      exact ⟨rfl, hx⟩
  have hm : n % 255 = if Int.tmod n 255 < 0 then Int.tmod n 255 + 255 else Int.tmod n 255 := by
    rcases Int.lt_or_le n 0 with h | h
    · obtain ⟨m, rfl⟩ : ∃ m : Int, n = -m := ⟨-n, by omega⟩
      rw [Int.neg_tmod, Int.tmod_eq_emod_of_nonneg (a := m) (by omega)]
      split <;> omega
    · rw [Int.tmod_eq_emod_of_nonneg h, if_neg (by omega)]
  have hlo := tmod255_rng n
  refine ⟨dec_t fun h => ?_, dec_f fun h => ?_⟩
  · rw [if_pos h] at hm
    rw [wrap64 _ (by omega) (by omega)]
    have : Int.tmod n 255 + 255 = (((n % 255).toNat : Nat) : Int) := by omega
    rw [this]; exact main
  · rw [if_neg h] at hm
    have : Int.tmod n 255 = (((n % 255).toNat : Nat) : Int) := by omega
    rw [this]; exact main
theorem expR_spec (n : Int) (w : World) : Ret Tryz.prog 32 #[.int .i64 n] w (.int .u8 ((exI n).toNat : Int)) := by
  refine ret_of (revetmentref01_Exp_calls ?_)
  unfold revetmentref01_Exp
  exact (powR_spec n w).mono fun e w1 ⟨he, hx⟩ => ⟨_, he, rfl, hx⟩
theorem bvals_next {X : List UInt8} {i : Nat} {x : UInt8} (h : X[i]? = some x) : bvals (X.take i) ++ [.int .u8 (x.toNat : Int)] = bvals (X.take (i + 1)) := by
  rw [List.take_add_one, h, ← bvals_append]; rfl
theorem timesR_spec (l : Txt) (by_ : UInt8) (hs : l.length ≤ 1000000) (w : World) : Ret Tryz.prog 31 #[.string (strB l), .int .u8 (by_.toNat : Int)] w (.string (strB (timesL l by_))) := by
  refine ret_of (revetmentref01_Times_calls ?_)
  unfold revetmentref01_Times
  rw [strB_size]
  refine Alloc.t (T.nil w) fun k0 w1 h1 => ?_
  have h1 : T [] w w1 [rowP 5 1 (some k0) 0 0 (bvals ((timesL l by_).take 0))] := blk_row h1 rfl rfl (by decide)
  refine ⟨fun vs w' => ∃ (i : Nat) (g : Option Nat) (cap : Nat), vs = [.slice (ptr g) i cap, .int .i64 (i : Int)] ∧ i ≤ l.length ∧ T [] w w' [rowP 5 1 g i cap (bvals ((timesL l by_).take i))], fun vs _ => match vs with | [_, .int _ i] => (l.length - i).toNat | _ => 0, ⟨0, some k0, 0, rfl, by omega, h1⟩, ?_⟩
  rintro vs w2 ⟨i, g, cap, rfl, hi, h2⟩
  refine ⟨_, _, _, _, rfl, dec_t fun hlt => ?_, dec_f fun hge => ?_⟩
  · have hlt : i < l.length := by omega
    have hix := index_str (P := Tryz.prog) (t := 9) (k := .i64) (n := (i : Int)) (s := strB l) (w := w2) (by kernel_rfl) (by omega) (by rw [strB_size]; omega)
    rw [Int.toNat_natCast] at hix
    refine ⟨((l.getD i 0).toNat : Int), w2, hix, ?_⟩
    refine (mulR_spec (l.getD i 0) by_ w2).mono fun e w3 ⟨he, hx3⟩ => ⟨_, he, ?_⟩
    refine push1_t (i := Tryz.t5) (z := .int .u8 0) (by kernel_rfl) (by kernel_rfl) (by kernel_rfl) (by kernel_rfl) (by kernel_rfl) (by kernel_rfl) (h2.quiet hx3) .head rfl (by omega) fun g2 cap2 w8 h8 => ⟨⟨i + 1, g2, cap2, ?_, by omega, ?_⟩, ?_⟩
    · rw [wrap64 _ (by omega) (by omega)]; rfl
    · rw [bvals_next (by simp [timesL, List.getD, hlt])] at h8
      exact h8
    · show ((l.length : Int) - IntKind.i64.wrap ((i : Int) + 1)).toNat < ((l.length : Int) - (i : Int)).toNat
      rw [wrap64 _ (by omega) (by omega)]; omega
  · have hie : i = l.length := by omega
    subst hie
    rw [List.take_of_length_le (by rw [timesL_len]; omega)] at h2
    exact ⟨_, w2, row_string h2 List.mem_cons_self, rfl, h2.chg.ext⟩
theorem xorT_next (a b : Txt) {i : Nat} (h : i < max a.length b.length) : (xorT a b)[i]? = some (a.getD i 0 ^^^ b.getD i 0) := by
  have := xorT_get a b i
  have hl : i < (xorT a b).length := by rw [xorT_len]; exact h
  rw [← this]
  simp [List.getD, hl]
theorem xorR_spec (a b : Txt) (ha : a.length ≤ 1000000) (hb : b.length ≤ 1000000) (w : World) : Ret Tryz.prog 50 #[.string (strB a), .string (strB b)] w (.string (strB (xorT a b))) := by
  refine ret_of (revetmentref01_Xor_calls ?_)
  unfold revetmentref01_Xor
  simp only [strB_size]
  refine Alloc.t (T.nil w) fun k0 w1 h1 => ?_
  have h1 : T [] w w1 [rowP 5 1 (some k0) 0 0 (bvals ((xorT a b).take 0))] := blk_row h1 rfl rfl (by decide)
  generalize hN : max a.length b.length = N
  have hmx : (if (b.length : Int) > (a.length : Int) then (b.length : Int) else (a.length : Int)) = (N : Int) := by split <;> omega
  refine ⟨fun vs w' => ∃ (i : Nat) (g : Option Nat) (cap : Nat), vs = [.slice (ptr g) i cap, .int .i64 (i : Int)] ∧ i ≤ N ∧ T [] w w' [rowP 5 1 g i cap (bvals ((xorT a b).take i))], fun vs _ => match vs with | [_, .int _ i] => (N - i).toNat | _ => 0, ⟨0, some k0, 0, rfl, by omega, h1⟩, ?_⟩
  rintro vs w2 ⟨i, g, cap, rfl, hi, h2⟩
  refine ⟨_, _, _, _, rfl, _, w2, max_run _ _ _ _ _ _, ?_⟩
  rw [hmx]
  refine ⟨dec_t fun hlt => ?_, dec_f fun hge => ?_⟩
  · have hlt : i < N := by omega
    refine Join.intro fun J hJ => ?_
    have main : J [.int .u8 ((a.getD i 0).toNat : Int)] w2 := by
      refine hJ _ _ ⟨_, rfl, Join.intro fun J1 hJ1 => ?_⟩
      have m1 : J1 [.int .u8 ((a.getD i 0 ^^^ b.getD i 0).toNat : Int)] w2 := by
        refine hJ1 _ _ ⟨_, rfl, ?_⟩
        refine push1_t (i := Tryz.t5) (z := .int .u8 0) (by kernel_rfl) (by kernel_rfl) (by kernel_rfl) (by kernel_rfl) (by kernel_rfl) (by kernel_rfl) h2 .head rfl (by omega) fun g2 cap2 w8 h8 => ⟨⟨i + 1, g2, cap2, ?_, by omega, ?_⟩, ?_⟩
        · rw [wrap64 _ (by omega) (by omega)]; rfl
        · rw [bvals_next (xorT_next a b (by omega))] at h8
          exact h8
        · show ((N : Int) - IntKind.i64.wrap ((i : Int) + 1)).toNat < ((N : Int) - (i : Int)).toNat
          rw [wrap64 _ (by omega) (by omega)]; omega
      refine ⟨dec_t fun h => ?_, dec_f fun h => ?_⟩
      · have hix := index_str (P := Tryz.prog) (t := 9) (k := .i64) (n := (i : Int)) (s := strB b) (w := w2) (by kernel_rfl) (by omega) (by rw [strB_size]; omega)
        rw [Int.toNat_natCast] at hix
        refine ⟨((b.getD i 0).toNat : Int), w2, hix, ?_⟩
        rw [u8_xor]
        exact m1
      · have : b.getD i 0 = 0 := by simp [List.getD, List.getElem?_eq_none (show b.length ≤ i by omega)]
        rw [this, UInt8.xor_zero] at m1
        exact m1
    refine ⟨dec_t fun h => ?_, dec_f fun h => ?_⟩
    · have hix := index_str (P := Tryz.prog) (t := 9) (k := .i64) (n := (i : Int)) (s := strB a) (w := w2) (by kernel_rfl) (by omega) (by rw [strB_size]; omega)
      rw [Int.toNat_natCast] at hix
      exact ⟨((a.getD i 0).toNat : Int), w2, hix, main⟩
    · have : a.getD i 0 = 0 := by simp [List.getD, List.getElem?_eq_none (show a.length ≤ i by omega)]
      rw [this] at main
      exact main
  · have hie : i = N := by omega
    subst hie
    rw [List.take_of_length_le (by rw [xorT_len]; omega)] at h2
    exact ⟨_, w2, row_string h2 List.mem_cons_self, rfl, h2.chg.ext⟩
theorem pR_spec {L : List Txt} (hS : Short L) (hn : L.length ≤ 1000000) {p : Option Addr} {c : Nat} {w : World} (h : strsL w p L) : Ret Tryz.prog 51 #[.slice p L.length c] w (.string (strB (sumT L))) := by
  refine ret_of (revetmentref05_P_calls ?_)
  unfold revetmentref05_P
  refine ⟨fun vs w' => Ext w w' ∧ ∃ i : Nat, vs = [.string (strB (sAcc L i)), .int .i64 (i : Int)] ∧ i ≤ L.length, fun vs _ => match vs with | [_, .int _ i] => (L.length - i).toNat | _ => 0, ⟨Ext.refl w, 0, rfl, by omega⟩, ?_⟩
  rintro vs w1 ⟨hx, i, rfl, hi⟩
  refine ⟨_, _, rfl, dec_t fun hlt => ?_, dec_f fun hge => ?_⟩
  · have hlt : i < L.length := by omega
    obtain ⟨a, ha, hc⟩ := (h.ext hx).get hlt
    refine ⟨a, ha, by omega, by omega, _, by rw [Int.toNat_natCast]; exact hc, ?_⟩
    refine (xorR_spec (sAcc L i) (L.getD i []) (sAcc_len hS i) (hS.get i) w1).mono fun e w2 ⟨he, hx2⟩ => ⟨_, he, ⟨hx.trans hx2, i + 1, ?_, by omega⟩, ?_⟩
    · rw [wrap64 _ (by omega) (by omega)]; rfl
    · show ((L.length : Int) - IntKind.i64.wrap ((i : Int) + 1)).toNat < ((L.length : Int) - (i : Int)).toNat
      rw [wrap64 _ (by omega) (by omega)]; omega
  · have hie : i = L.length := by omega
    subst hie
    exact ⟨rfl, hx⟩
theorem qR_spec {L : List Txt} (hS : Short L) (hn : L.length ≤ 250) {p : Option Addr} {c : Nat} {w : World} (h : strsL w p L) : Ret Tryz.prog 52 #[.slice p L.length c] w (.string (strB (qT L))) := by
  refine ret_of (revetmentref05_Q_calls ?_)
  unfold revetmentref05_Q
  refine ⟨fun vs w' => Ext w w' ∧ ∃ i : Nat, vs = [.string (strB (qAcc L i)), .int .i64 (i : Int)] ∧ i ≤ L.length, fun vs _ => match vs with | [_, .int _ i] => (L.length - i).toNat | _ => 0, ⟨Ext.refl w, 0, rfl, by omega⟩, ?_⟩
  rintro vs w1 ⟨hx, i, rfl, hi⟩
  refine ⟨_, _, rfl, dec_t fun hlt => ?_, dec_f fun hge => ?_⟩
  · have hlt : i < L.length := by omega
    obtain ⟨a, ha, hc⟩ := (h.ext hx).get hlt
    refine ⟨fun w' => Ext w w', hx.drew, a, ha, by omega, by omega, strB (L.getD i []), fun w' h' => ?_, ?_⟩
    · obtain ⟨a', ha', hc'⟩ := (h.ext h').get hlt
      rw [ha] at ha'; cases ha'
      rw [Int.toNat_natCast]; exact hc'
    refine (expR_spec (i : Int) _).mono fun e w2 ⟨he, hx2⟩ => ⟨_, he, hx.drew.trans hx2, ?_⟩
    rw [exI_pos (by omega)]
    refine (timesR_spec (L.getD i []) (ex i) (hS.get i) w2).mono fun e w3 ⟨he, hx3⟩ => ⟨_, he, (hx.drew.trans hx2).trans hx3, ?_⟩
    refine (xorR_spec (qAcc L i) (timesL (L.getD i []) (ex i)) (qAcc_len hS i) (by rw [timesL_len]; exact hS.get i) w3).mono fun e w4 ⟨he, hx4⟩ => ⟨_, he, ((hx.drew.trans hx2).trans hx3).trans hx4, ⟨((hx.drew.trans hx2).trans hx3).trans hx4, i + 1, ?_, by omega⟩, ?_⟩
    · rw [wrap64 _ (by omega) (by omega)]; rfl
    · show ((L.length : Int) - IntKind.i64.wrap ((i : Int) + 1)).toNat < ((L.length : Int) - (i : Int)).toNat
      rw [wrap64 _ (by omega) (by omega)]; omega
  · have hie : i = L.length := by omega
    subst hie
    exact ⟨rfl, hx⟩
theorem sumR_spec {L : List Txt} (hS : Short L) (h2 : 2 ≤ L.length) (hn : L.length ≤ 200) {p : Option Addr} {c : Nat} (hcl : L.length ≤ c) {w : World} (h : strsL w p L) : Ret Tryz.prog 28 #[.slice p L.length c] w (.tuple #[.string (strB (synP L)), .string (strB (synQ L))]) := by
  refine ret_of (revetmentref05_Sum_calls ?_)
  unfold revetmentref05_Sum
  have e1 : IntKind.i64.wrap ((L.length : Int) - 2) = ((L.length - 2 : Nat) : Int) := by rw [wrap64 _ (by omega) (by omega)]; omega
  have e2 : IntKind.i64.wrap (((L.length - 2 : Nat) : Int) + 1) = ((L.length - 1 : Nat) : Int) := by rw [wrap64 _ (by omega) (by omega)]; omega
  simp only [e1, e2]
  have htl : (L.take (L.length - 2)).length = L.length - 2 := by rw [List.length_take]; omega
  have hST := hS.take (L.length - 2)
  obtain ⟨a, ha, _⟩ := h.get (n := 0) (by omega)
  refine ⟨dec_t fun hlt => absurd hlt (by omega), dec_f fun _ => ⟨fun w' => Ext w w', (Ext.refl w).drew, p, L.length - 2, c, fun w' _ => by rw [strs_to (by omega) (by omega) w', Int.toNat_natCast], ?_⟩⟩
  have hx0 := (Ext.refl w).drew
  have hp := pR_spec hST (by omega) (c := c) ((h.ext hx0).take (L.length - 2))
  rw [htl] at hp
  refine hp.mono fun e w1 ⟨he, hx1⟩ => ⟨_, he, hx0.trans hx1, a, ha, by omega, by omega, strB (L.getD (L.length - 2) []), fun w' h' => ?_, ?_⟩
  · obtain ⟨a', ha', hc⟩ := (h.ext h').get (n := L.length - 2) (by omega)
    rw [ha] at ha'; cases ha'
    rw [Int.toNat_natCast]; exact hc
  refine (xorR_spec (sumT (L.take (L.length - 2))) (L.getD (L.length - 2) []) (sAcc_len hST _) (hS.get _) w1).mono fun e w2 ⟨he, hx2⟩ => ⟨_, he, (hx0.trans hx1).trans hx2, p, L.length - 2, c, fun w' _ => by rw [strs_to (by omega) (by omega) w', Int.toNat_natCast], ?_⟩
  have hx02 := (hx0.trans hx1).trans hx2
  have hq := qR_spec hST (by omega) (c := c) ((h.ext hx02).take (L.length - 2))
  rw [htl] at hq
  refine hq.mono fun e w3 ⟨he, hx3⟩ => ⟨_, he, hx02.trans hx3, a, ha, by omega, by omega, strB (L.getD (L.length - 1) []), fun w' h' => ?_, ?_⟩
  · obtain ⟨a', ha', hc⟩ := (h.ext h').get (n := L.length - 1) (by omega)
    rw [ha] at ha'; cases ha'
    rw [Int.toNat_natCast]; exact hc
  exact (xorR_spec (qT (L.take (L.length - 2))) (L.getD (L.length - 1) []) (qAcc_len hST _) (hS.get _) w3).mono fun e w4 ⟨he, hx4⟩ => ⟨_, he, (hx02.trans hx3).trans hx4, rfl, (hx02.trans hx3).trans hx4⟩
theorem zeroR_spec (l : Txt) (hs : l.length ≤ 1000000) (w : World) : Ret Tryz.prog 29 #[.string (strB l)] w (.bool (l.all fun x => x == 0)) := by
  refine ret_of (revetmentref05_Zero_calls ?_)
  unfold revetmentref05_Zero
  rw [strB_size]
  refine ⟨fun vs w' => w' = w ∧ ∃ i : Nat, vs = [.int .i64 (i : Int)] ∧ i ≤ l.length ∧ (l.take i).all (fun x => x == 0) = true, fun vs _ => match vs with | [.int _ i] => (l.length - i).toNat | _ => 0, ⟨rfl, 0, rfl, by omega, rfl⟩, ?_⟩
  rintro vs w1 ⟨rfl, i, rfl, hi, hs'⟩
  refine ⟨_, rfl, dec_t fun hlt => ?_, dec_f fun hge => ?_⟩
  · have hlt : i < l.length := by omega
    have hix := index_str (P := Tryz.prog) (t := 9) (k := .i64) (n := (i : Int)) (s := strB l) (w := w1) (by kernel_rfl) (by omega) (by rw [strB_size]; omega)
    rw [Int.toNat_natCast] at hix
    have hg : l.getD i 0 = l[i] := by simp [List.getD, hlt]
    refine ⟨((l[i]).toNat : Int), w1, by rw [← hg]; exact hix, bne_t fun hne => ⟨?_, Ext.refl _⟩, bne_f fun he => ⟨⟨rfl, i + 1, ?_, by omega, ?_⟩, ?_⟩⟩
    · have : l.all (fun x => x == 0) = false := List.all_eq_false.2 ⟨l[i], List.getElem_mem hlt, fun e => hne (by rw [beq_iff_eq.1 e]; rfl)⟩
      rw [this]
    · rw [wrap64 _ (by omega) (by omega)]; rfl
    · have : l[i] = 0 := u8_zero he
      rw [List.take_add_one, List.getElem?_eq_getElem hlt, List.all_append, hs', this]; rfl
    · show ((l.length : Int) - IntKind.i64.wrap ((i : Int) + 1)).toNat < ((l.length : Int) - (i : Int)).toNat
      rw [wrap64 _ (by omega) (by omega)]; omega
  · have hie : i = l.length := by omega
    subst hie
    rw [List.take_length] at hs'
    exact ⟨by rw [hs'], Ext.refl _⟩
def goodF (L : List Txt) : Bool := (synP L).all (fun x => x == 0) && (synQ L).all fun x => x == 0
theorem goodR_spec {L : List Txt} (hS : Short L) (h2 : 2 ≤ L.length) (hn : L.length ≤ 200) {p : Option Addr} {c : Nat} (hcl : L.length ≤ c) {w : World} (h : strsL w p L) : Ret Tryz.prog 15 #[.slice p L.length c] w (.bool (goodF L)) := by
  refine ret_of (revetmentref05_Good_calls ?_)
  unfold revetmentref05_Good
  refine (sumR_spec hS h2 hn hcl h).mono fun e w1 ⟨he, hx1⟩ => ⟨_, _, he, yes (decide_eq_true (by omega)) ?_⟩
  refine (zeroR_spec (synP L) (synP_len hS) w1).mono fun e w2 ⟨he, hx2⟩ => ⟨_, he, fun h => ?_, fun h => ⟨by unfold goodF; rw [h]; rfl, hx1.trans hx2⟩⟩
  refine (zeroR_spec (synQ L) (synQ_len hS) w2).mono fun e w3 ⟨he, hx3⟩ => ⟨_, he, by unfold goodF; rw [h]; rfl, (hx1.trans hx2).trans hx3⟩
/-- good: P's and Q's sums are right at each place -/
theorem goodF_iff {L : List Txt} {m : Nat} (h : AllLen L m) (h3 : 3 ≤ L.length) : goodF L = true ↔ ∀ j, j < m → PRel (col L j) (L.length - 2) ∧ QRel (col L j) (L.length - 2) := by
  have e1 := synP_all h h3
  have e2 := synQ_all h h3
  have key : ∀ l : Txt, l.all (fun x => x == 0) = true ↔ ∀ j, j < l.length → l.getD j 0 = 0 := fun l => by
    rw [List.all_eq_true]
    constructor
    · intro hA j hj
      have := hA l[j] (List.getElem_mem hj)
      simpa [List.getD, hj] using this
    · intro hA x hx
      obtain ⟨j, hj, rfl⟩ := List.getElem_of_mem hx
      have := hA j hj
      simpa [List.getD, hj] using this
  unfold goodF
  rw [Bool.and_eq_true, key, key, e1, e2]
  have p1 : ∀ j, (synP L).getD j 0 = 0 ↔ PRel (col L j) (L.length - 2) := fun j => by
    rw [synP_col, UInt8.xor_eq_zero_iff]
    exact ⟨fun h => h.symm, fun h => h.symm⟩
  have p2 : ∀ j, (synQ L).getD j 0 = 0 ↔ QRel (col L j) (L.length - 2) := fun j => by
    rw [synQ_col, UInt8.xor_eq_zero_iff, ← show L.length - 2 + 1 = L.length - 1 by omega]
    exact ⟨fun h => h.symm, fun h => h.symm⟩
  exact ⟨fun ⟨a, b⟩ j hj => ⟨(p1 j).1 (a j hj), (p2 j).1 (b j hj)⟩, fun hh => ⟨fun j hj => (p1 j).2 (hh j hj).1, fun j hj => (p2 j).2 (hh j hj).2⟩⟩
end Go.Proofs.YtdfkifgkccnaiaaGreatDoor
