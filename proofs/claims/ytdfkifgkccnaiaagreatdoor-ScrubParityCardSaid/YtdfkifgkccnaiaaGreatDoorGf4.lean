import Derived.Test.YtdfkifgkccnaiaaGreatDoorGf3
import Derived.Test.YtdfkifgkccnaiaaGreatDoorGf2
/-! gf: Exp, Inv, Times, Xor; twice a byte. -/
namespace Go.Proofs.YtdfkifgkccnaiaaGreatDoor
open Go.Sh Go.RowKit
set_option linter.unusedVariables false
set_option linter.unusedSimpArgs false
set_option maxRecDepth 20000
set_option maxHeartbeats 1000000
theorem exp_spec (n : Int) (w : World) : Ret Tryz.prog 75 #[.int .i64 n] w (.int .u8 ((exI n).toNat : Int)) := by
  refine ret_of (gf_Exp_calls ?_)
  unfold gf_Exp
  refine (fresh_spec (T.nil w)).mono fun e w1 ⟨b, he, h1⟩ => ⟨_, he, ?_⟩
  exact (power_spec h1 List.mem_cons_self n).mono fun e w2 ⟨he, hx⟩ => ⟨_, he, rfl, (h1.quiet hx).chg.ext⟩
def invF (x : UInt8) : UInt8 := if x = 0 then 0 else exI (0 - (lg x : Int))
theorem invF_ne {x : UInt8} (h : x ≠ 0) : invF x = invG x := by
  unfold invF invG exI
  rw [if_neg h]
  have := lg_lt x
  by_cases h0 : lg x = 0
  · rw [h0]
    exact ex_255.symm
  · congr 1
    omega
theorem u8_zero {u : UInt8} (h : ((u.toNat : Nat) : Int) = 0) : u = 0 := UInt8.toNat_inj.1 (by show u.toNat = 0; omega)
theorem inv_spec (x : UInt8) (w : World) : Ret Tryz.prog 74 #[.int .u8 (x.toNat : Int)] w (.tuple #[.int .u8 ((invF x).toNat : Int), .bool (decide (x ≠ 0))]) := by
  refine ret_of (gf_Inv_calls ?_)
  unfold gf_Inv
  have hx := x.toNat_lt
  refine ⟨beq_t fun h0 => ⟨by rw [u8_zero h0]; rfl, Ext.refl w⟩, beq_f fun h0 => ?_⟩
  have hx0 : x ≠ 0 := fun e => h0 (by rw [e]; rfl)
  have lx := lg_lt x
  refine (fresh_spec (T.nil w)).mono fun e w1 ⟨b, he, h1⟩ => ⟨_, he, fun w' => T [] w w' [blk b tabs 126], h1.drew, ⟨b, 0, none⟩, rfl, by omega, by omega, (lg x : Int), fun w' h => ?_, ?_⟩
  · simp only [addr_add, Nat.zero_add, Nat.mul_one, Int.toNat_natCast]
    exact h.ld List.mem_cons_self (tab_log 1 0 1 255 hx)
  · rw [wrap64 _ (by omega) (by omega)]
    refine (power_spec h1.drew List.mem_cons_self _).mono fun e w2 ⟨he, hx2⟩ => ⟨_, he, h1.drew.quiet hx2, ⟨b, 0, none⟩, rfl, ?_⟩
    simp only [addr_add, Nat.zero_add]
    have h2 := h1.drew.quiet hx2
    refine (on_load ⟨b, 3, none⟩ 1 w2 (h2.ld (i := 3) List.mem_cons_self rfl)).mono fun e w3 ⟨he, hw⟩ => ⟨1, he, ?_⟩
    subst hw
    refine ⟨h2, ?_, h2.chg.ext⟩
    unfold invF
    rw [if_neg hx0, decide_eq_true hx0]
    rfl
/-- a row that is filled up to i -/
def fillR (n : Nat) (f g : Nat → UInt8) (i : Nat) : List UInt8 := (List.range n).map fun j => if j < i then f j else g j
theorem fillR_len (n : Nat) (f g : Nat → UInt8) (i : Nat) : (fillR n f g i).length = n := by simp [fillR]
theorem fillR_zero (n : Nat) (f g : Nat → UInt8) : fillR n f g 0 = (List.range n).map g := by simp [fillR]
theorem fillR_set (n : Nat) (f g : Nat → UInt8) {i : Nat} (hi : i < n) : (bvals (fillR n f g i)).set i (.int .u8 ((f i).toNat : Int)) = bvals (fillR n f g (i + 1)) := by
  apply List.ext_getElem?
  intro j
  rw [List.getElem?_set, bvals_len, fillR_len]
  by_cases h : i = j
  · subst h
    rw [if_pos rfl, if_pos hi]
    simp [bvals, fillR, hi]
  · rw [if_neg h]
    by_cases hj : j < n
    · by_cases h1 : j < i
      · simp [bvals, fillR, hj, h1, show j < i + 1 by omega]
      · simp [bvals, fillR, hj, h1, show ¬ j < i + 1 by omega]
    · simp [bvals, fillR, hj]
theorem fillR_all (n : Nat) (f g : Nat → UInt8) : fillR n f g n = (List.range n).map f := by
  unfold fillR
  apply List.map_congr_left
  intro j hj
  rw [if_pos (List.mem_range.1 hj)]
theorem range_getD (l : List UInt8) (f : UInt8 → UInt8) : ((List.range l.length).map fun j => f (l.getD j 0)) = l.map f := by
  apply List.ext_getElem?
  intro j
  by_cases h : j < l.length
  · simp [h, List.getD]
  · simp [h]
theorem list_range (l : List UInt8) : ((List.range l.length).map fun j => l.getD j 0) = l := by
  have h := range_getD l fun x => x
  rw [List.map_id'] at h
  exact h
/-- a text, times a number -/
def timesL (l : List UInt8) (by_ : UInt8) : List UInt8 := l.map fun x => mulG x by_
theorem times_spec (s : ByteArray) (by_ : UInt8) (hs : s.size ≤ 1000000000) (w : World) : Ret Tryz.prog 38 #[.string s, .int .u8 (by_.toNat : Int)] w (.string (strB (timesL s.data.toList by_))) := by
  refine ret_of (gf_Times_calls ?_)
  unfold gf_Times
  have hl : s.data.toList.length = s.size := Array.length_toList
  refine (fresh_spec (T.nil w)).mono fun e w1 ⟨b, he, h1⟩ => ⟨_, he, ?_⟩
  obtain ⟨k, w2, hmk, h2⟩ := make_t (P := Tryz.prog) (t := 33) (e := 5) (i := Tryz.t5) (z := .int .u8 0) (kl := .i64) (kc := .i64) (n := (s.size : Int)) (c := (s.size : Int)) (by kernel_rfl) (by kernel_rfl) (by kernel_rfl) (by kernel_rfl) (by rfl) (by kernel_rfl) (by omega) (by omega) (by omega) h1
  simp only [Int.toNat_natCast] at hmk h2
  refine ⟨_, _, _, w2, hmk, ?_⟩
  generalize hf : (fun j => mulG (s.data.toList.getD j 0) by_) = f
  have h2 : T [] w w2 (rowP 5 1 (some k) s.size s.size (bvals (fillR s.size f (fun _ => 0) 0)) :: [blk b tabs 126]) := by
    have : List.replicate s.size ((Value.int .u8 0).cells.getD 0 undef) = bvals (fillR s.size f (fun _ => 0) 0) := by
      rw [fillR_zero]
      show List.replicate s.size (Value.int .u8 0) = _
      rw [bvals_zeros, List.map_const', List.length_range]
    rw [this] at h2
    exact h2
  refine ⟨fun vs w' => ∃ i : Nat, vs = [.int .i64 (i : Int)] ∧ i ≤ s.size ∧ T [] w w' (rowP 5 1 (some k) s.size s.size (bvals (fillR s.size f (fun _ => 0) i)) :: [blk b tabs 126]), fun vs _ => match vs with | [.int _ i] => (s.size - i).toNat | _ => 0, ⟨0, rfl, by omega, h2⟩, ?_⟩
  rintro vs w3 ⟨i, rfl, hi, h3⟩
  refine ⟨_, rfl, dec_t fun hlt => ?_, dec_f fun hge => ?_⟩
  · have hlt : i < s.size := by omega
    have hix := index_str (P := Tryz.prog) (t := 9) (k := .i64) (n := (i : Int)) (s := s) (w := w3) (by kernel_rfl) (by omega) (by omega)
    rw [Int.toNat_natCast] at hix
    refine ⟨_, w3, hix, ?_⟩
    refine (mul_spec h3 (List.mem_cons_of_mem _ List.mem_cons_self) (s.data.toList.getD i 0) by_).mono fun e w4 ⟨he, hx4⟩ => ⟨_, he, ⟨k, 0, none⟩, rfl, by omega, by omega, ?_⟩
    simp only [addr_add, Nat.zero_add, Nat.mul_one, Int.toNat_natCast]
    refine StRow.t (h3.quiet hx4) .head (by rw [bvals_len, fillR_len]; exact hlt) rfl fun w5 h5 => ?_
    have hfi : mulG (s.data.toList.getD i 0) by_ = f i := by rw [← hf]
    rw [hfi, fillR_set _ _ _ hlt] at h5
    refine ⟨⟨i + 1, ?_, by omega, h5⟩, ?_⟩
    · rw [wrap64 _ (by omega) (by omega)]; rfl
    · show ((s.size : Int) - IntKind.i64.wrap ((i : Int) + 1)).toNat < ((s.size : Int) - (i : Int)).toNat
      rw [wrap64 _ (by omega) (by omega)]; omega
  · have hie : i = s.size := by omega
    subst hie
    rw [fillR_all] at h3
    refine ⟨_, w3, row_string h3 List.mem_cons_self, ?_, h3.chg.ext⟩
    have : (List.range s.size).map f = timesL s.data.toList by_ := by
      rw [← hl, ← hf]
      exact range_getD s.data.toList fun x => mulG x by_
    rw [this]
/-- the sum of two texts, the shorter one filled up -/
def xorT : List UInt8 → List UInt8 → List UInt8
  | [], b => b
  | a, [] => a
  | x :: a, y :: b => (x ^^^ y) :: xorT a b
theorem xorT_comm : ∀ a b : List UInt8, xorT a b = xorT b a
  | [], [] => rfl
  | [], _ :: _ => rfl
  | _ :: _, [] => rfl
  | x :: a, y :: b => by simp only [xorT]; rw [UInt8.xor_comm, xorT_comm a b]
theorem xorT_len : ∀ a b : List UInt8, (xorT a b).length = max a.length b.length
  | [], b => by simp [xorT]
  | _ :: _, [] => by simp [xorT]
  | x :: a, y :: b => by simp only [xorT, List.length_cons, xorT_len a b]; omega
theorem xorT_get : ∀ (a b : List UInt8) (j : Nat), (xorT a b).getD j 0 = a.getD j 0 ^^^ b.getD j 0
  | [], b, j => by simp [xorT]
  | x :: a, [], j => by simp [xorT]
  | x :: a, y :: b, 0 => by simp [xorT]
  | x :: a, y :: b, j + 1 => by
    have := xorT_get a b j
    simpa [xorT] using this
theorem ext_getD {a b : List UInt8} (h : a.length = b.length) (hg : ∀ j, j < a.length → a.getD j 0 = b.getD j 0) : a = b := by
  apply List.ext_getElem h
  intro j h1 h2
  have := hg j h1
  simpa [List.getD, h1, h2] using this
theorem u8_xor (x y : UInt8) : bits2 .xor .u8 (x.toNat : Int) (y.toNat : Int) = ((x ^^^ y).toNat : Int) := by
  have hx := x.toNat_lt; have hy := y.toNat_lt
  unfold bits2
  simp only [IntKind.bits]
  rw [show BitVec.ofInt 8 ((x.toNat : Nat) : Int) = BitVec.ofNat 8 x.toNat by simp, show BitVec.ofInt 8 ((y.toNat : Nat) : Int) = BitVec.ofNat 8 y.toNat by simp]
  have : ((BitVec.ofNat 8 x.toNat ^^^ BitVec.ofNat 8 y.toNat).toNat) = (x ^^^ y).toNat := by
    rw [BitVec.toNat_xor, BitVec.toNat_ofNat, BitVec.toNat_ofNat, UInt8.toNat_xor, Nat.mod_eq_of_lt hx, Nat.mod_eq_of_lt hy]
  have h2 := (x ^^^ y).toNat_lt
  show IntKind.u8.wrap (((BitVec.ofNat 8 x.toNat ^^^ BitVec.ofNat 8 y.toNat).toNat : Nat) : Int) = _
  rw [this, wrap8]
  omega
theorem xor_spec (s0 s1 : ByteArray) (h0 : s0.size ≤ 1000000000) (h1 : s1.size ≤ 1000000000) (w : World) : Ret Tryz.prog 59 #[.string s0, .string s1] w (.string (strB (xorT s0.data.toList s1.data.toList))) := by
  refine ret_of (gf_Xor_calls ?_)
  unfold gf_Xor
  refine Join.intro fun J hJ => ?_
  have main : ∀ a b : ByteArray, b.size ≤ a.size → a.size ≤ 1000000000 → xorT a.data.toList b.data.toList = xorT s0.data.toList s1.data.toList → J [.string a, .string b] w := by
    intro a b hba ha hab
    refine hJ _ _ ⟨_, _, rfl, ?_⟩
    have hla : a.data.toList.length = a.size := Array.length_toList
    have hlb : b.data.toList.length = b.size := Array.length_toList
    obtain ⟨k, cap, w2, hc, h2⟩ := bytes_t (T.nil w) a
    refine ⟨_, _, _, w2, hc, ?_⟩
    generalize hf : (fun j => a.data.toList.getD j 0 ^^^ b.data.toList.getD j 0) = f
    generalize hg : (fun j => a.data.toList.getD j 0) = g
    have h2 : T [] w w2 [rowZ 5 k a.size (bvals (fillR a.size f g 0))] := by
      have : a.data.toList = fillR a.size f g 0 := by
        rw [fillR_zero, ← hg, ← hla]
        exact (list_range a.data.toList).symm
      rw [← this]; exact h2
    refine ⟨fun vs w' => ∃ i : Nat, vs = [.int .i64 (i : Int)] ∧ i ≤ b.size ∧ T [] w w' [rowZ 5 k a.size (bvals (fillR a.size f g i))], fun vs _ => match vs with | [.int _ i] => (b.size - i).toNat | _ => 0, ⟨0, rfl, by omega, h2⟩, ?_⟩
    rintro vs w3 ⟨i, rfl, hi, h3⟩
    refine ⟨_, rfl, dec_t fun hlt => ?_, dec_f fun hge => ?_⟩
    · have hlt : i < b.size := by omega
      have hfg : (fillR a.size f g i)[i]? = some (a.data.toList.getD i 0) := by
        rw [← hg]; simp [fillR, show i < a.size by omega]
      refine ⟨fun w' => T [] w w' [rowZ 5 k a.size (bvals (fillR a.size f g i))], h3.drew, ⟨k, 0, none⟩, rfl, by omega, by omega, ((a.data.toList.getD i 0).toNat : Int), fun w' hd => ?_, ((b.data.toList.getD i 0).toNat : Int), fun w' hd => ?_, ⟨k, 0, none⟩, rfl, by omega, by omega, ?_⟩
      · simp only [addr_add, Nat.zero_add, Nat.mul_one, Int.toNat_natCast]
        exact rowZ.cell (hd.says List.mem_cons_self) (by rw [bvals_get, hfg]; rfl)
      · have hix := index_str (P := Tryz.prog) (t := 9) (k := .i64) (n := (i : Int)) (s := b) (w := w') (by kernel_rfl) (by omega) (by omega)
        rw [Int.toNat_natCast] at hix
        exact hix
      · simp only [addr_add, Nat.zero_add, Nat.mul_one, Int.toNat_natCast]
        rw [u8_xor]
        refine StZ.t h3.drew .head (by omega) rfl fun w5 h5 => ?_
        have hfi : a.data.toList.getD i 0 ^^^ b.data.toList.getD i 0 = f i := by rw [← hf]
        rw [hfi, fillR_set _ _ _ (by omega)] at h5
        refine ⟨⟨i + 1, ?_, by omega, h5⟩, ?_⟩
        · rw [wrap64 _ (by omega) (by omega)]; rfl
        · show ((b.size : Int) - IntKind.i64.wrap ((i : Int) + 1)).toNat < ((b.size : Int) - (i : Int)).toNat
          rw [wrap64 _ (by omega) (by omega)]; omega
    · have hie : i = b.size := by omega
      subst hie
      refine ⟨_, w3, row_stringZ h3 List.mem_cons_self, ?_, h3.chg.ext⟩
      have : fillR a.size f g b.size = xorT s0.data.toList s1.data.toList := by
        rw [← hab]
        apply ext_getD
        · rw [fillR_len, xorT_len]; omega
        · intro j hj
          rw [fillR_len] at hj
          rw [xorT_get]
          by_cases hjb : j < b.size
          · simp [fillR, List.getD, hj, hjb, ← hf]
          · have hz : b.data.toList.getD j 0 = 0 := by simp [List.getD, List.getElem?_eq_none (show b.data.toList.length ≤ j by omega)]
            rw [hz]
            simp [fillR, List.getD, hj, hjb, ← hg]
      rw [this]
  refine ⟨dec_t fun hlt => main _ _ (by omega) h1 (xorT_comm _ _), dec_f fun hge => main _ _ (by omega) h0 rfl⟩
theorem u8_shr (x : UInt8) (k : Nat) : Int.fdiv (x.toNat : Int) (2 ^ k) = ((x.toNat / 2 ^ k : Nat) : Int) := by
  rw [Int.fdiv_eq_ediv_of_nonneg _ (Int.le_of_lt (Int.pow_pos (by decide)))]
  push_cast
  rfl
/-- Mul of a byte by two -/
theorem dbl_spec (x : UInt8) (w : World) : Ret Tryz.prog 61 #[.int .u8 (x.toNat : Int), .int .u8 2] w (.int .u8 ((xt x).toNat : Int)) := by
  refine ret_of (gf_Mul_calls ?_)
  unfold gf_Mul
  have step : ∀ y : UInt8, (Int.fdiv (y.toNat : Int) (2 ^ 7) = 1 → bits2 .xor .u8 (IntKind.u8.wrap ((y.toNat : Int) * 2 ^ 1)) 29 = ((xt y).toNat : Int)) ∧ (¬ Int.fdiv (y.toNat : Int) (2 ^ 7) = 1 → IntKind.u8.wrap ((y.toNat : Int) * 2 ^ 1) = ((xt y).toNat : Int)) := by
    have h : ∀ n : Fin 256, (Int.fdiv ((UInt8.ofNat n.1).toNat : Int) (2 ^ 7) = 1 → bits2 .xor .u8 (IntKind.u8.wrap (((UInt8.ofNat n.1).toNat : Int) * 2 ^ 1)) 29 = ((xt (UInt8.ofNat n.1)).toNat : Int)) ∧ (¬ Int.fdiv ((UInt8.ofNat n.1).toNat : Int) (2 ^ 7) = 1 → IntKind.u8.wrap (((UInt8.ofNat n.1).toNat : Int) * 2 ^ 1) = ((xt (UInt8.ofNat n.1)).toNat : Int)) := by decide +kernel
    intro y
    have := h ⟨y.toNat, y.toNat_lt⟩
    simpa using this
  have b0 : bits2 .and .u8 2 1 = 0 := by decide
  have b1 : bits2 .and .u8 1 1 = 1 := by decide
  have d2 : Int.fdiv 2 (2 ^ 1) = 1 := by decide
  have d1 : Int.fdiv 1 (2 ^ 1) = 0 := by decide
  refine ⟨fun vs w' => w' = w ∧ (vs = [.int .u8 (x.toNat : Int), .int .u8 2, .int .u8 0] ∨ vs = [.int .u8 ((xt x).toNat : Int), .int .u8 1, .int .u8 0] ∨ ∃ y : Int, vs = [.int .u8 y, .int .u8 0, .int .u8 ((xt x).toNat : Int)]), fun vs _ => match vs with | [_, .int _ b, _] => b.toNat | _ => 0, ⟨rfl, .inl rfl⟩, ?_⟩
  rintro vs w1 ⟨rfl, h | h | ⟨y, h⟩⟩
  · subst h
    refine ⟨_, _, _, rfl, dec_t fun _ => Join.intro fun J hJ => ?_, dec_f fun h => absurd h (by decide)⟩
    rw [b0]
    refine no rfl (hJ _ _ ⟨_, rfl, ?_⟩)
    rw [d2]
    refine ⟨beq_t fun h7 => ⟨⟨rfl, .inr (.inl ?_)⟩, show (1 : Int).toNat < (2 : Int).toNat by decide⟩, beq_f fun h7 => ⟨⟨rfl, .inr (.inl ?_)⟩, show (1 : Int).toNat < (2 : Int).toNat by decide⟩⟩
    · rw [(step x).1 h7]
    · rw [(step x).2 h7]
  · subst h
    refine ⟨_, _, _, rfl, dec_t fun _ => Join.intro fun J hJ => ?_, dec_f fun h => absurd h (by decide)⟩
    rw [b1]
    have hz : bits2 .xor .u8 0 ((xt x).toNat : Int) = ((xt x).toNat : Int) := by
      have := u8_xor 0 (xt x)
      rw [UInt8.zero_xor] at this
      exact this
    refine yes rfl (hJ _ _ ⟨_, rfl, ?_⟩)
    rw [d1, hz]
    exact ⟨fun _ => ⟨⟨rfl, .inr (.inr ⟨_, rfl⟩)⟩, show (0 : Int).toNat < (1 : Int).toNat by decide⟩, fun _ => ⟨⟨rfl, .inr (.inr ⟨_, rfl⟩)⟩, show (0 : Int).toNat < (1 : Int).toNat by decide⟩⟩
  · subst h
    refine ⟨_, _, _, rfl, dec_t fun h => absurd h (by decide), dec_f fun _ => ⟨rfl, Ext.refl _⟩⟩
end Go.Proofs.YtdfkifgkccnaiaaGreatDoor
