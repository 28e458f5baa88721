import Derived.Test.YtdfkifgkccnaiaaGreatDoorBy
import Derived.Test.YtdfkifgkccnaiaaGreatDoorCode
import Derived.Test.YtdfkifgkccnaiaaGreatDoorGf1
import Derived.Test.YtdfkifgkccnaiaaGreatDoorOn2
/-! gf: the tables, made; fresh, power, mul. -/
namespace Go.Proofs.YtdfkifgkccnaiaaGreatDoor
open Go.Sh Go.RowKit
set_option linter.unusedVariables false
set_option linter.unusedSimpArgs false
set_option maxRecDepth 20000
set_option maxHeartbeats 1000000
def expA (i j : Nat) : Nat := if j < i then expN j else if 255 ≤ j ∧ j < 255 + i then expN (j - 255) else 0
theorem expA_succ {i : Nat} (hi : i < 255) (j : Nat) : expA (i + 1) j = if j = i then expN i else if j = i + 255 then expN i else expA i j := by
  unfold expA
  by_cases h1 : j = i
  · subst h1; rw [if_pos (by omega), if_pos rfl]
  rw [if_neg h1]
  by_cases h2 : j = i + 255
  · subst h2; rw [if_neg (by omega), if_pos (by omega), if_pos rfl, Nat.add_sub_cancel]
  rw [if_neg h2]
  by_cases h3 : j < i
  · rw [if_pos (by omega), if_pos h3]
  rw [if_neg (by omega), if_neg h3]
  by_cases h4 : 255 ≤ j ∧ j < 255 + i
  · rw [if_pos (by omega), if_pos h4]
  · rw [if_neg (by omega), if_neg h4]
theorem expA_all {j : Nat} (hj : j < 510) : expA 255 j = expN j := by
  unfold expA
  by_cases h : j < 255
  · rw [if_pos h]
  · rw [if_neg h, if_pos (by omega)]
    have := expN_round (j - 255)
    rw [show j - 255 + 255 = j by omega] at this
    exact this.symm
def expL (i : Nat) : List Value := (List.range 510).map fun j => .int .u8 (expA i j : Int)
def logL (i : Nat) : List Value := (List.range 256).map fun x => .int .i64 (logF i x : Int)
def tabC (d s m : Int) (i : Nat) : Array Value := (.int .u32 d :: .int .i32 s :: .int .u32 0 :: .int .i32 m :: (expL i ++ logL i)).toArray
theorem tabC_size (d s m : Int) (i : Nat) : (tabC d s m i).size = 770 := by simp [tabC, expL, logL]
theorem tab_lo (d s m : Int) (i i' : Nat) {k : Nat} (hk : k < 4) : (tabC d s m i)[k]? = (tabC d s m i')[k]? := by
  match k, hk with
  | 0, _ => rfl
  | 1, _ => rfl
  | 2, _ => rfl
  | 3, _ => rfl
theorem tab_exp (d s m : Int) (i : Nat) {j : Nat} (hj : j < 510) : (tabC d s m i)[4 + j]? = some (.int .u8 (expA i j : Int)) := by
  unfold tabC
  rw [List.getElem?_toArray, show 4 + j = j + 1 + 1 + 1 + 1 by omega]
  simp only [List.getElem?_cons_succ]
  rw [List.getElem?_append_left (by simp [expL]; exact hj)]
  simp [expL, hj]
theorem tab_log (d s m : Int) (i : Nat) {x : Nat} (hx : x < 256) : (tabC d s m i)[514 + x]? = some (.int .i64 (logF i x : Int)) := by
  unfold tabC
  rw [List.getElem?_toArray, show 514 + x = (510 + x) + 1 + 1 + 1 + 1 by omega]
  simp only [List.getElem?_cons_succ]
  rw [List.getElem?_append_right (by simp [expL])]
  simp [expL, logL, hx]
theorem tab_step (d s m : Int) {i : Nat} (hi : i < 255) :
    (((tabC d s m i).setIfInBounds (4 + i) (.int .u8 (expN i : Int))).setIfInBounds (4 + (i + 255)) (.int .u8 (expN i : Int))).setIfInBounds (514 + expN i) (.int .i64 (i : Int)) = tabC d s m (i + 1) := by
  have hx := expN_lt i
  apply Array.ext_getElem?
  intro k
  simp only [Array.getElem?_setIfInBounds, Array.size_setIfInBounds, tabC_size]
  by_cases h1 : k < 4
  · rw [if_neg (by omega), if_neg (by omega), if_neg (by omega)]
    exact tab_lo d s m i (i + 1) h1
  by_cases h2 : k < 514
  · obtain ⟨j, rfl⟩ : ∃ j, k = 4 + j := ⟨k - 4, by omega⟩
    rw [if_neg (by omega), tab_exp d s m (i + 1) (by omega), expA_succ hi, tab_exp d s m i (by omega)]
    by_cases e1 : j = i
    · subst e1
      rw [if_neg (by omega), if_pos rfl, if_pos (by omega), if_pos rfl]
    rw [if_neg e1]
    by_cases e2 : j = i + 255
    · subst e2
      rw [if_pos rfl, if_pos (by omega), if_pos rfl]
    rw [if_neg e2, if_neg (by omega), if_neg (by omega)]
  by_cases h3 : k < 770
  · obtain ⟨x, rfl⟩ : ∃ x, k = 514 + x := ⟨k - 514, by omega⟩
    rw [tab_log d s m (i + 1) (by omega)]
    by_cases e1 : x = expN i
    · subst e1
      rw [if_pos rfl, if_pos (by omega)]
      simp [logF]
    · rw [if_neg (by omega), if_neg (by omega), if_neg (by omega), tab_log d s m i (by omega)]
      simp only [logF]
      rw [if_neg (fun e => e1 e.symm)]
  · rw [if_neg (by omega), if_neg (by omega), if_neg (by omega), Array.getElem?_eq_none (by rw [tabC_size]; omega), Array.getElem?_eq_none (by rw [tabC_size]; omega)]
theorem dbl_xor {x : Nat} (hx : x < 256) : bits2 .xor .i64 ((2 * x : Nat) : Int) 285 = ((Nat.xor (2 * x) 285 : Nat) : Int) := by
  have h : ∀ n : Fin 256, bits2 .xor .i64 ((2 * n.1 : Nat) : Int) 285 = ((Nat.xor (2 * n.1) 285 : Nat) : Int) := by decide +kernel
  exact h ⟨x, hx⟩
theorem T.set {F : List Nat} {w0 w : World} {Γ : List A} {b i : Nat} {c : Array Value} {t : TypeId} {v : Value} (hT : T F w0 w (blk b c t :: Γ)) (hi : i < c.size) (hv : scalar v = true) :
    w.frozen? ⟨b, i, none⟩ = false ∧ T F w0 (w.setCell ⟨b, i, none⟩ v) (blk b (c.setIfInBounds i v) t :: Γ) := by
  have h : St ⟨b, i, none⟩ v w fun w' => T F w0 w' (blk b (c.setIfInBounds i v) t :: Γ) := St.t hT .head hi rfl hv fun w' h => h
  exact ⟨h.2.1, h.2.2.2⟩
theorem tab_made (d s m m' : Int) (i : Nat) : (tabC d s m i).setIfInBounds 3 (.int .i32 m') = tabC d s m' i := by
  unfold tabC; rw [List.setIfInBounds_toArray]; rfl
theorem tab_state (d s m s' : Int) (i : Nat) : (tabC d s m i).setIfInBounds 1 (.int .i32 s') = tabC d s' m i := by
  unfold tabC; rw [List.setIfInBounds_toArray]; rfl
theorem tab_done (d s m d' : Int) (i : Nat) : (tabC d s m i).setIfInBounds 0 (.int .u32 d') = tabC d' s m i := by
  unfold tabC; rw [List.setIfInBounds_toArray]; rfl
theorem made_spec {F : List Nat} {w0 w : World} {Γ : List A} {b : Nat} {t : TypeId} {d s : Int} (hT : T F w0 w (blk b (tabC d s 0 0) t :: Γ)) :
    Calls Tryz.prog 100 #[.pointer (some ⟨b, 0, none⟩)] w fun e w' => e = .returned (.tuple #[]) ∧ T F w0 w' (blk b (tabC d s 1 255) t :: Γ) := by
  refine (gf_tables_make_calls (R := fun v w' => v = .tuple #[] ∧ T F w0 w' (blk b (tabC d s 1 255) t :: Γ)) ?_).mono fun e w' ⟨v, he, hv, h⟩ => ⟨by rw [he, hv], h⟩
  unfold gf_tables_make
  simp only [addr_add, Nat.zero_add]
  obtain ⟨hz, h1⟩ := T.set (i := 3) (v := .int .i32 1) hT (by rw [tabC_size]; omega) rfl
  rw [tab_made] at h1
  refine ⟨⟨b, 0, none⟩, rfl, ?_⟩
  simp only [addr_add, Nat.zero_add]
  refine (on_add ⟨b, 3, none⟩ w (hT.ld List.mem_cons_self rfl) hz).mono fun e w1 ⟨he, hw⟩ => ⟨1, he, ?_⟩
  subst hw
  refine ⟨fun vs w' => ∃ i : Nat, vs = [.int .i64 (expN i : Int), .int .i64 (i : Int)] ∧ i ≤ 255 ∧ T F w0 w' (blk b (tabC d s 1 i) t :: Γ), fun vs _ => match vs with | [_, .int _ i] => (255 - i).toNat | _ => 0, ⟨0, rfl, by omega, h1⟩, ?_⟩
  rintro vs w2 ⟨i, rfl, hi, h2⟩
  refine ⟨_, _, rfl, dec_t fun hlt => ?_, dec_f fun hge => ?_⟩
  · have hlt : i < 255 := by omega
    have hx := expN_lt i
    have e8 : IntKind.u8.wrap (expN i : Int) = (expN i : Int) := by rw [wrap8]; omega
    have ei : IntKind.i64.wrap ((i : Int) + 255) = ((i + 255 : Nat) : Int) := by rw [wrap64 _ (by omega) (by omega)]; omega
    have e2 : IntKind.i64.wrap ((expN i : Int) * 2 ^ 1) = ((2 * expN i : Nat) : Int) := by rw [wrap64 _ (by omega) (by omega)]; omega
    have e1 : IntKind.i64.wrap ((i : Int) + 1) = ((i + 1 : Nat) : Int) := by rw [wrap64 _ (by omega) (by omega)]; omega
    rw [e8, ei, e2, e1]
    refine ⟨fun _ => True, trivial, ⟨b, 0, none⟩, rfl, by omega, by omega, ?_⟩
    simp only [addr_add, Nat.zero_add, Int.toNat_natCast, Nat.mul_one]
    refine St.t h2.drew .head (by rw [tabC_size]; omega) rfl rfl fun w3 h3 => ⟨trivial, ⟨b, 0, none⟩, rfl, by omega, by omega, ?_⟩
    simp only [addr_add, Nat.zero_add]
    refine St.t h3 .head (by rw [Array.size_setIfInBounds, tabC_size]; omega) rfl rfl fun w4 h4 => ⟨⟨b, 0, none⟩, rfl, by omega, by omega, ?_⟩
    simp only [addr_add, Nat.zero_add]
    refine St.t h4 .head (by rw [Array.size_setIfInBounds, Array.size_setIfInBounds, tabC_size]; omega) rfl rfl fun w5 h5 => ?_
    rw [tab_step d s 1 hlt] at h5
    have hms : ((255 : Int) - ((i + 1 : Nat) : Int)).toNat < ((255 : Int) - (i : Int)).toNat := by omega
    refine ⟨fun hgt => ⟨⟨i + 1, ?_, by omega, h5⟩, hms⟩, fun hgt => ⟨⟨i + 1, ?_, by omega, h5⟩, hms⟩⟩
    · have hgt : 2 * expN i > 255 := by have := of_decide_eq_true hgt; omega
      rw [dbl_xor hx]
      show _ = [Value.int .i64 ((xtn (expN i) : Nat) : Int), _]
      unfold xtn
      rw [if_pos hgt]
    · have hgt : ¬ 2 * expN i > 255 := by have := of_decide_eq_false hgt; omega
      show _ = [Value.int .i64 ((xtn (expN i) : Nat) : Int), _]
      unfold xtn
      rw [if_neg hgt]
  · have : i = 255 := by omega
    subst this
    exact ⟨trivial, h2⟩
theorem once_spec {F : List Nat} {w0 w : World} {Γ : List A} {b : Nat} {t : TypeId} (hT : T F w0 w (blk b (tabC 0 0 0 0) t :: Γ)) :
    Calls Tryz.prog 99 #[.pointer (some ⟨b, 0, none⟩), .func (.func 100) #[.pointer (some ⟨b, 0, none⟩)] #[]] w fun e w' => e = .returned (.tuple #[]) ∧ T F w0 w' (blk b (tabC 1 0 1 255) t :: Γ) := by
  obtain ⟨f1, h1⟩ := T.set (i := 1) (v := .int .i32 1) hT (by rw [tabC_size]; omega) rfl
  rw [tab_state] at h1
  have fz : ∀ {w' : World} {i : Nat}, i < 770 → T F w0 w' (blk b (tabC 0 1 1 255) t :: Γ) → w'.frozen? ⟨b, i, none⟩ = false := fun hi h => (T.set (i := _) (v := .int .i32 1) h (by rw [tabC_size]; exact hi) rfl).1
  refine (on_do b 0 ⟨b, 0, none⟩ w (fun w' => T F w0 w' (blk b (tabC 0 1 1 255) t :: Γ)) (hT.ld List.mem_cons_self rfl) (hT.ld (i := 1) List.mem_cons_self rfl) f1 (made_spec h1) (fun w' h => h.ld List.mem_cons_self rfl) (fun w' h => h.ld (i := 1) List.mem_cons_self rfl) (fun w' h => fz (by omega) h) (fun w' h => fz (by omega) h)).mono fun e w'' ⟨he, w', hq, hw⟩ => ⟨he, ?_⟩
  subst hw
  obtain ⟨_, h2⟩ := T.set (i := 0) (v := .int .u32 1) hq.drew (by rw [tabC_size]; omega) rfl
  rw [tab_done] at h2
  obtain ⟨_, h3⟩ := T.set (i := 1) (v := .int .i32 0) h2 (by rw [tabC_size]; omega) rfl
  rw [tab_state] at h3
  exact h3
abbrev tabs : Array Value := tabC 1 0 1 255
theorem ready_spec {F : List Nat} {w0 w : World} {Γ : List A} {b : Nat} {t : TypeId} (hT : T F w0 w (blk b (tabC 0 0 0 0) t :: Γ)) :
    Calls Tryz.prog 84 #[.pointer (some ⟨b, 0, none⟩)] w fun e w' => e = .returned (.pointer (some ⟨b, 0, none⟩)) ∧ T F w0 w' (blk b tabs t :: Γ) := by
  refine (gf_tables_ready_calls (R := fun v w' => v = .pointer (some ⟨b, 0, none⟩) ∧ T F w0 w' (blk b tabs t :: Γ)) ?_).mono fun e w' ⟨v, he, hv, h⟩ => ⟨by rw [he, hv], h⟩
  unfold gf_tables_ready
  exact ⟨_, rfl, (once_spec hT).mono fun e w1 ⟨he, h1⟩ => ⟨he, rfl, h1⟩⟩
theorem zero_tabs : (zc Tryz.prog 126).getD #[] = tabC 0 0 0 0 := by kernel_rfl
theorem fresh_spec {F : List Nat} {w0 w : World} {Γ : List A} (hT : T F w0 w Γ) :
    Calls Tryz.prog 62 #[] w fun e w' => ∃ b, e = .returned (.pointer (some ⟨b, 0, none⟩)) ∧ T F w0 w' (blk b tabs 126 :: Γ) := by
  refine (gf_fresh_calls (R := fun v w' => ∃ b, v = .pointer (some ⟨b, 0, none⟩) ∧ T F w0 w' (blk b tabs 126 :: Γ)) ?_).mono fun e w' ⟨v, he, b, hv, h⟩ => ⟨b, by rw [he, hv], h⟩
  unfold gf_fresh
  rw [zero_tabs]
  exact Alloc.t hT fun b w1 h1 => (ready_spec h1).mono fun e w2 ⟨he, h2⟩ => ⟨_, he, b, rfl, h2⟩
theorem tmod255 (n : Int) : Int.tmod (Int.tmod n 255 + 255) 255 = n % 255 := by
  by_cases h : 0 ≤ n
  · rw [Int.tmod_eq_emod_of_nonneg h, Int.tmod_eq_emod_of_nonneg (by omega)]; omega
  · obtain ⟨m, rfl⟩ : ∃ m : Int, n = -m := ⟨-n, by omega⟩
    rw [Int.neg_tmod, Int.tmod_eq_emod_of_nonneg (a := m) (by omega), Int.tmod_eq_emod_of_nonneg (by omega)]; omega
theorem tmod255_rng (n : Int) : -255 < Int.tmod n 255 ∧ Int.tmod n 255 < 255 := by
  by_cases h : 0 ≤ n
  · rw [Int.tmod_eq_emod_of_nonneg h]; omega
  · obtain ⟨m, rfl⟩ : ∃ m : Int, n = -m := ⟨-n, by omega⟩
    rw [Int.neg_tmod, Int.tmod_eq_emod_of_nonneg (a := m) (by omega)]; omega
/-- the power of two, that goes round -/
def exI (n : Int) : UInt8 := ex (n % 255).toNat
theorem power_spec {F : List Nat} {w0 w : World} {Γ : List A} {b : Nat} {t : TypeId} (hT : T F w0 w Γ) (hm : blk b tabs t ∈ Γ) (n : Int) :
    Ret Tryz.prog 93 #[.pointer (some ⟨b, 0, none⟩), .int .i64 n] w (.int .u8 ((exI n).toNat : Int)) := by
  refine ret_of (gf_tables_power_calls ?_)
  unfold gf_tables_power
  have hr := tmod255_rng n
  rw [wrap64 _ (by omega) (by omega), tmod255]
  simp only [addr_add, Nat.zero_add, Nat.mul_one]
  refine ⟨⟨b, 0, none⟩, rfl, by omega, by omega, (expN (n % 255).toNat : Int), ?_, ?_, Ext.refl w⟩
  · simp only [addr_add, Nat.zero_add]
    have := tab_exp 1 0 1 255 (j := (n % 255).toNat) (by omega)
    rw [expA_all (by omega)] at this
    exact hT.ld hm this
  · unfold exI; rw [ex_toNat]
theorem mul_spec {F : List Nat} {w0 w : World} {Γ : List A} {b : Nat} {t : TypeId} (hT : T F w0 w Γ) (hm : blk b tabs t ∈ Γ) (x y : UInt8) :
    Ret Tryz.prog 63 #[.pointer (some ⟨b, 0, none⟩), .int .u8 (x.toNat : Int), .int .u8 (y.toNat : Int)] w (.int .u8 ((mulG x y).toNat : Int)) := by
  refine ret_of (gf_tables_mul_calls ?_)
  unfold gf_tables_mul
  have hx := x.toNat_lt; have hy := y.toNat_lt
  have z : ∀ u : UInt8, ((u.toNat : Nat) : Int) = 0 → u = 0 := fun u h => UInt8.toNat_inj.1 (by show u.toNat = 0; omega)
  refine ⟨beq_t fun h0 => ⟨by rw [z x h0, zero_mulG]; rfl, Ext.refl w⟩, beq_f fun h0 => ⟨beq_t fun h1 => ⟨by rw [z y h1, mulG_zero]; rfl, Ext.refl w⟩, beq_f fun h1 => ?_⟩⟩
  have hx0 : x ≠ 0 := fun e => h0 (by rw [e]; rfl)
  have hy0 : y ≠ 0 := fun e => h1 (by rw [e]; rfl)
  have lx := lg_lt x; have ly := lg_lt y
  have es : IntKind.i64.wrap ((lg x : Int) + (lg y : Int)) = ((lg x + lg y : Nat) : Int) := by rw [wrap64 _ (by omega) (by omega)]; omega
  refine ⟨fun w' => T F w0 w' Γ, hT.drew, ⟨b, 0, none⟩, rfl, by omega, by omega, (lg x : Int), fun w' h => ?_, ⟨b, 0, none⟩, rfl, by omega, by omega, (lg y : Int), fun w' h => ?_, ⟨b, 0, none⟩, rfl, by rw [es]; omega, by rw [es]; omega, (expN (lg x + lg y) : Int), fun w' h => ?_, ?_, (Ext.refl w).drew⟩
  · simp only [addr_add, Nat.zero_add, Nat.mul_one, Int.toNat_natCast]
    exact h.ld hm (tab_log 1 0 1 255 hx)
  · simp only [addr_add, Nat.zero_add, Nat.mul_one, Int.toNat_natCast]
    exact h.ld hm (tab_log 1 0 1 255 hy)
  · rw [es]
    simp only [addr_add, Nat.zero_add, Nat.mul_one, Int.toNat_natCast]
    have := tab_exp 1 0 1 255 (j := lg x + lg y) (by omega)
    rw [expA_all (by omega)] at this
    exact h.ld hm this
  · unfold mulG
    rw [if_neg (by simp [hx0, hy0]), ex_toNat]
end Go.Proofs.YtdfkifgkccnaiaaGreatDoor
