import Derived.Test.YtdfkifgkccnaiaaGreatDoorAl2
import Derived.Laws.Slices
/-! A range over a function that leaves the function; strings.Trim of one byte; scrub: zero, multiples. -/
namespace Go.Sh
open Go.RowKit
set_option linter.unusedVariables false
theorem RoundR.t {obf : LoopState → Option Code → Obj} {l : Nat} {Φ : Value → World → Prop} {body : (World → Prop) → (Nat → World → Prop) → (World → Prop) → World → Prop} {F : List Nat} {w0 W : World} {Γ : List A}
    (hT : T F w0 W (ob l (obf .ready none) :: Γ)) {G : List A → Prop} (hΦ : ∀ Γ' w', G Γ' → T F w0 w' (ob l (obf .done (some .ret)) :: Γ') → Φ (.bool false) w')
    (hb : ∀ K X R w1, T F w0 w1 (ob l (obf .busy none) :: Γ) → (∀ Γ' w2, G Γ' → T F w0 w2 (ob l (obf .busy none) :: Γ') → R w2) → body K X R w1) : RoundP obf l Φ body W :=
  ⟨hT.got List.mem_cons_self, hb _ _ _ _ hT.putTop fun Γ' w2 hg h2 => ⟨h2.got List.mem_cons_self, hΦ Γ' _ hg h2.putTop⟩⟩
/-- the callee writes, too; the N-th round leaves the function -/
theorem RangeR.t {P : Program} {round : (LoopState → Option Code → Obj) → Nat → List Value → World → (Value → World → Prop) → Prop} {os : List (Nat × (Nat → World → Prop))} {K R : Nat → World → Prop} {f : FuncId} {first cap : Array Value} (hb : bodyB P f = true)
    {F : List Nat} {w0 w : World} {Γ : List A} (hT : T F w0 w Γ) {N : Nat} {arg : Nat → List Value} {Inv Mid : Nat → List A → Prop} {Out : List A → Prop}
    (hcallee : ∀ (yv : Value) (x y z : A), (∀ k W Γk, k < N → Inv k Γk → T F w0 W (x :: y :: Γk) → CallF P yv (arg k) W fun e w' => e = .returned (.bool true) ∧ ∃ Γ', Mid k Γ' ∧ T F w0 w' (x :: y :: Γ')) →
      (∀ W Γk, Inv N Γk → T F w0 W (x :: y :: Γk) → CallF P yv (arg N) W fun e w' => e = .returned (.bool false) ∧ ∃ Γ', Out Γ' ∧ T F w0 w' (z :: y :: Γ')) →
      ∀ W, T F w0 W (x :: y :: Γ) → Calls P f (first.toList ++ [yv] ++ cap.toList).toArray W fun e w' => (∃ v, e = .returned v) ∧ ∃ Γ', Out Γ' ∧ T F w0 w' (z :: y :: Γ'))
    (hround : ∀ (obf : LoopState → Option Code → Obj) (l d k : Nat) (Γk : List A) (W : World) (Φ : Value → World → Prop), k < N → Inv k Γk → T F w0 W (ob l (obf .ready none) :: ob d (.deferred (some [])) :: Γk) →
      (∀ Γ' w', Mid k Γ' → T F w0 w' (ob l (obf .ready none) :: ob d (.deferred (some [])) :: Γ') → Φ (.bool true) w') → round obf l (arg k) W Φ)
    (hbrk : ∀ (obf : LoopState → Option Code → Obj) (l d : Nat) (Γk : List A) (W : World) (Φ : Value → World → Prop), Inv N Γk → T F w0 W (ob l (obf .ready none) :: ob d (.deferred (some [])) :: Γk) →
      (∀ Γ' w', Out Γ' → T F w0 w' (ob l (obf .done (some .ret)) :: ob d (.deferred (some [])) :: Γ') → Φ (.bool false) w') → round obf l (arg N) W Φ)
    (hK : ∀ d Γ' w', Out Γ' → T F w0 w' (ob d (.deferred (some [])) :: Γ') → R d w') : RangeP P (.func (.func f) first cap) round os K R w := by
  intro obf hob hyield
  refine ⟨f, first, cap, rfl, hb, ?_⟩
  have hsz : (w.alloc (.deferred (some []))).heap.size = w.heap.size + 1 := by simp
  have h2 := (hT.alloc (.deferred (some []))).alloc (obf .ready none)
  rw [hsz] at h2
  refine (hcallee (.func (.yield (w.heap.size + 1)) #[] #[]) (ob (w.heap.size + 1) (obf .ready none)) (ob w.heap.size (.deferred (some []))) (ob (w.heap.size + 1) (obf .done (some .ret))) ?_ ?_ _ h2).mono ?_
  · intro k W Γk hk hi h
    show CallV P (.func (.yield (w.heap.size + 1)) #[] #[]) (arg k) W _
    exact hyield _ _ _ (h.got List.mem_cons_self) (hround obf _ w.heap.size k Γk W _ hk hi h fun Γ' w' hi' h' => ⟨rfl, Γ', hi', h'⟩)
  · intro W Γk hi h
    show CallV P (.func (.yield (w.heap.size + 1)) #[] #[]) (arg N) W _
    exact hyield _ _ _ (h.got List.mem_cons_self) (hbrk obf _ w.heap.size Γk W _ hi h fun Γ' w' hi' h' => ⟨rfl, Γ', hi', h'⟩)
  · rintro e w3 ⟨hv, Γk, hi, h⟩
    exact ⟨hv, .done, some .ret, h.got List.mem_cons_self, by simp, .inr (.inl ⟨rfl, hK _ Γk _ hi h.putTop.drop⟩)⟩
/-- the callee writes, too; all rounds go on -/
theorem RangeA.t {P : Program} {round : (LoopState → Option Code → Obj) → Nat → List Value → World → (Value → World → Prop) → Prop} {os : List (Nat × (Nat → World → Prop))} {K R : Nat → World → Prop} {f : FuncId} {first cap : Array Value} (hb : bodyB P f = true)
    {F : List Nat} {w0 w : World} {Γ : List A} (hT : T F w0 w Γ) {N : Nat} {arg : Nat → List Value} {Inv Mid : Nat → List A → Prop}
    (hcallee : ∀ (yv : Value) (x y : A), (∀ k W Γk, k < N → Inv k Γk → T F w0 W (x :: y :: Γk) → CallF P yv (arg k) W fun e w' => e = .returned (.bool true) ∧ ∃ Γ', Mid k Γ' ∧ T F w0 w' (x :: y :: Γ')) →
      ∀ W, T F w0 W (x :: y :: Γ) → Calls P f (first.toList ++ [yv] ++ cap.toList).toArray W fun e w' => (∃ v, e = .returned v) ∧ ∃ Γ', Inv N Γ' ∧ T F w0 w' (x :: y :: Γ'))
    (hround : ∀ (obf : LoopState → Option Code → Obj) (l d k : Nat) (Γk : List A) (W : World) (Φ : Value → World → Prop), k < N → Inv k Γk → T F w0 W (ob l (obf .ready none) :: ob d (.deferred (some [])) :: Γk) →
      (∀ Γ' w', Mid k Γ' → T F w0 w' (ob l (obf .ready none) :: ob d (.deferred (some [])) :: Γ') → Φ (.bool true) w') → round obf l (arg k) W Φ)
    (hK : ∀ d Γ' w', Inv N Γ' → T F w0 w' (ob d (.deferred (some [])) :: Γ') → K d w') : RangeP P (.func (.func f) first cap) round os K R w := by
  intro obf hob hyield
  refine ⟨f, first, cap, rfl, hb, ?_⟩
  have hsz : (w.alloc (.deferred (some []))).heap.size = w.heap.size + 1 := by simp
  have h2 := (hT.alloc (.deferred (some []))).alloc (obf .ready none)
  rw [hsz] at h2
  refine (hcallee (.func (.yield (w.heap.size + 1)) #[] #[]) (ob (w.heap.size + 1) (obf .ready none)) (ob w.heap.size (.deferred (some []))) ?_ _ h2).mono ?_
  · intro k W Γk hk hi h
    show CallV P (.func (.yield (w.heap.size + 1)) #[] #[]) (arg k) W _
    exact hyield _ _ _ (h.got List.mem_cons_self) (hround obf _ w.heap.size k Γk W _ hk hi h fun Γ' w' hi' h' => ⟨rfl, Γ', hi', h'⟩)
  · rintro e w3 ⟨hv, Γk, hi, h⟩
    exact ⟨hv, .ready, none, h.got List.mem_cons_self, by simp, .inl ⟨rfl, hK _ Γk _ hi h.putTop.drop⟩⟩
end Go.Sh
namespace Go.Proofs.YtdfkifgkccnaiaaGreatDoor
open Go.Sh Go.RowKit
set_option linter.unusedVariables false
set_option linter.unusedSimpArgs false
set_option maxRecDepth 20000
set_option maxHeartbeats 2000000
theorem trimL_spec (l : Txt) (b : UInt8) (w : World) : Calls Tryz.prog 76 #[.string (strB l), .int .u8 (b.toNat : Int)] w fun e w' => ∃ r m : Txt, e = .returned (.string (strB m)) ∧ l = r ++ m ∧ (∀ x ∈ r, x = b) ∧ (∀ x t, m = x :: t → x ≠ b) ∧ Ext w w' := by
  refine (strings_trimLeftByte_calls (R := fun v w' => ∃ r m : Txt, v = .string (strB m) ∧ l = r ++ m ∧ (∀ x ∈ r, x = b) ∧ (∀ x t, m = x :: t → x ≠ b) ∧ Ext w w') ?_).mono fun e w' ⟨v, he, r, m, hv, h⟩ => ⟨r, m, by rw [he, hv], h⟩
  unfold strings_trimLeftByte
  refine ⟨fun vs w' => w' = w ∧ ∃ r m : Txt, vs = [.string (strB m)] ∧ l = r ++ m ∧ (∀ x ∈ r, x = b), fun vs _ => match vs with | [.string s] => s.size | _ => 0, ⟨rfl, [], l, rfl, rfl, by simp⟩, ?_⟩
  rintro vs w1 ⟨rfl, r, m, rfl, hl, hr⟩
  refine ⟨_, rfl, dec_t fun hlt => ?_, dec_f fun hge => ?_⟩
  · rw [strB_size] at hlt
    obtain ⟨x, t, rfl⟩ : ∃ x t, m = x :: t := by
      cases m with
      | nil => simp at hlt
      | cons x t => exact ⟨x, t, rfl⟩
    have hix := index_str (P := Tryz.prog) (t := 9) (k := .i64) (n := (0 : Int)) (s := strB (x :: t)) (w := w1) (by kernel_rfl) (by omega) (by rw [strB_size]; simp)
    refine ⟨(x.toNat : Int), w1, hix, beq_t fun hx => ?_, beq_f fun hx => ?_⟩
    · have hsl := slice_from (P := Tryz.prog) (t := 9) (k := .i64) (s := strB (x :: t)) (lo := 1) (w := w1) (by kernel_rfl) (by omega) (by rw [strB_size]; simp; omega)
      rw [strB_extract, strB_size] at hsl
      have ht : ((x :: t).drop (1 : Int).toNat).take ((x :: t).length - (1 : Int).toNat) = t := by simp
      rw [ht] at hsl
      have hxb : x = b := UInt8.toNat_inj.1 (by omega)
      refine ⟨_, w1, hsl, ⟨rfl, r ++ [x], t, rfl, by simp [hl], fun y hy => ?_⟩, ?_⟩
      · rcases List.mem_append.1 hy with hy | hy
        · exact hr y hy
        · rw [List.mem_singleton.1 hy]; exact hxb
      · show (strB t).size < (strB (x :: t)).size
        rw [strB_size, strB_size]; simp
    · exact ⟨r, x :: t, rfl, hl, hr, fun y s hy => by cases hy; exact fun e => hx (by rw [e]), Ext.refl _⟩
  · rw [strB_size] at hge
    have : m = [] := List.eq_nil_of_length_eq_zero (by omega)
    subst this
    exact ⟨r, [], rfl, hl, hr, (fun y s hy => by cases hy), Ext.refl _⟩
theorem trimR_spec (l : Txt) (hl : l.length ≤ 1000000000) (b : UInt8) (w : World) : Calls Tryz.prog 77 #[.string (strB l), .int .u8 (b.toNat : Int)] w fun e w' => ∃ r m : Txt, e = .returned (.string (strB m)) ∧ l = m ++ r ∧ (∀ x ∈ r, x = b) ∧ Ext w w' := by
  refine (strings_trimRightByte_calls (R := fun v w' => ∃ r m : Txt, v = .string (strB m) ∧ l = m ++ r ∧ (∀ x ∈ r, x = b) ∧ Ext w w') ?_).mono fun e w' ⟨v, he, r, m, hv, h⟩ => ⟨r, m, by rw [he, hv], h⟩
  unfold strings_trimRightByte
  refine ⟨fun vs w' => w' = w ∧ ∃ r m : Txt, vs = [.string (strB m)] ∧ l = m ++ r ∧ (∀ x ∈ r, x = b), fun vs _ => match vs with | [.string s] => s.size | _ => 0, ⟨rfl, [], l, rfl, by simp, by simp⟩, ?_⟩
  rintro vs w1 ⟨rfl, r, m, rfl, hlm, hr⟩
  have hml : m.length ≤ 1000000000 := by have := congrArg List.length hlm; simp at this; omega
  refine ⟨_, rfl, dec_t fun hlt => ?_, dec_f fun hge => ⟨r, m, rfl, hlm, hr, Ext.refl _⟩⟩
  rw [strB_size] at hlt ⊢
  have e1 : IntKind.i64.wrap ((m.length : Int) - 1) = ((m.length - 1 : Nat) : Int) := by rw [wrap64 _ (by omega) (by omega)]; omega
  rw [e1]
  have hix := index_str (P := Tryz.prog) (t := 9) (k := .i64) (n := ((m.length - 1 : Nat) : Int)) (s := strB m) (w := w1) (by kernel_rfl) (by omega) (by rw [strB_size]; omega)
  rw [Int.toNat_natCast] at hix
  refine ⟨((m.getD (m.length - 1) 0).toNat : Int), w1, hix, beq_t fun hx => ?_, beq_f fun hx => ⟨r, m, rfl, hlm, hr, Ext.refl _⟩⟩
  have hsl := slice_to (P := Tryz.prog) (t := 9) (k := .i64) (s := strB m) (hi := ((m.length - 1 : Nat) : Int)) (w := w1) (by kernel_rfl) (by omega) (by rw [strB_size]; omega)
  rw [strB_extract, List.drop_zero, Nat.sub_zero, Int.toNat_natCast] at hsl
  have hxb : m.getD (m.length - 1) 0 = b := UInt8.toNat_inj.1 (by omega)
  have hsp : m = m.take (m.length - 1) ++ [b] := by
    have h0 : m.length - 1 < m.length := by omega
    have h1 : m.getD (m.length - 1) 0 = m[m.length - 1] := by simp [List.getD, h0]
    rw [h1] at hxb
    rw [← hxb]
    have h2 := List.take_append_drop (m.length - 1) m
    rw [List.drop_eq_getElem_cons h0, List.drop_of_length_le (by omega)] at h2
    exact h2.symm
  refine ⟨_, w1, hsl, ⟨rfl, b :: r, m.take (m.length - 1), rfl, ?_, fun y hy => ?_⟩, ?_⟩
  · rw [hlm]
    conv => lhs; rw [hsp]
    simp
  · rcases List.mem_cons.1 hy with rfl | hy
    · rfl
    · exact hr y hy
  · show (strB (m.take (m.length - 1))).size < (strB m).size
    rw [strB_size, strB_size, List.length_take]; omega
theorem trim_spec (l : Txt) (hl : l.length ≤ 1000000000) (w : World) : Calls Tryz.prog 48 #[.string (strB l), .string (strB [0])] w fun e w' => ∃ m : Txt, e = .returned (.string (strB m)) ∧ (m = [] ↔ ∀ x ∈ l, x = 0) ∧ Ext w w' := by
  refine (strings_Trim_calls (R := fun v w' => ∃ m : Txt, v = .string (strB m) ∧ (m = [] ↔ ∀ x ∈ l, x = 0) ∧ Ext w w') ?_).mono fun e w' ⟨v, he, m, hv, h⟩ => ⟨m, by rw [he, hv], h⟩
  unfold strings_Trim
  rw [strB_toList, strB_toList, strB_toList]
  refine ⟨fun h => ?_, fun h => no (by decide) ?_⟩
  · have : l = [] := by simpa using h
    subst this
    exact ⟨[], rfl, by simp, Ext.refl w⟩
  refine Join.intro fun J hJ => yes (by decide) ?_
  have hix : ∀ w', (Instr.index 9 (.string (strB [0])) (.int .i64 0)).run Tryz.prog w' = .ok (.int .u8 ((0 : UInt8).toNat : Int)) w' := fun w' =>
    index_str (P := Tryz.prog) (t := 9) (k := .i64) (n := (0 : Int)) (s := strB [0]) (w := w') (by kernel_rfl) (by omega) (by rw [strB_size]; simp)
  refine ⟨_, w, hix w, yes (by decide) ⟨fun _ => True, trivial, _, fun w' _ => hix w', ?_⟩⟩
  refine (trimR_spec l hl 0 _).mono fun e w1 ⟨r1, m1, he, h1, hr1, hx1⟩ => ⟨_, he, trivial, _, fun w' _ => hix w', ?_⟩
  refine (trimL_spec m1 0 _).mono fun e w2 ⟨r2, m2, he, h2, hr2, hn2, hx2⟩ => ⟨_, he, trivial, m2, rfl, ?_, ((Ext.refl w).drew.trans hx1).trans hx2⟩
  constructor
  · rintro rfl x hx
    rw [h1, h2, List.append_nil] at hx
    rcases List.mem_append.1 hx with h | h
    · exact hr2 x h
    · exact hr1 x h
  · intro hall
    cases m2 with
    | nil => rfl
    | cons x t => exact absurd (hall x (by rw [h1, h2]; simp)) (hn2 x t rfl)
/-- bytes 0 alone -/
def zB (l : Txt) : Bool := l.all fun x => x == 0
theorem zero_spec (l : Txt) (hl : l.length ≤ 1000000000) (w : World) : Ret Tryz.prog 26 #[.string (strB l)] w (.bool (zB l)) := by
  refine ret_of (scrub_zero_calls ?_)
  unfold scrub_zero
  refine (trim_spec l hl w).mono fun e w1 ⟨m, he, hm, hx⟩ => ⟨_, he, ?_, hx⟩
  rw [strB_toList]
  congr 1
  have e0 : (ByteArray.mk #[]).toList = [] := strB_toList []
  rw [e0]
  have hz : zB l = true ↔ ∀ x ∈ l, x = 0 := by unfold zB; simp
  by_cases h : m = []
  · rw [hz.2 (hm.1 h), h]; rfl
  · have : zB l = false := Bool.eq_false_iff.2 fun h' => h (hm.2 (hz.1 h'))
    rw [this]
    simpa using h
/-- a text, times a power -/
def mulX (l : Txt) (i : Nat) : Txt := timesL l (ex i)
theorem mulX_zero (l : Txt) : mulX l 0 = l := by
  unfold mulX timesL
  conv => rhs; rw [← List.map_id l]
  apply List.map_congr_left
  intro x _
  rw [mulG_ex]; rfl
theorem mulX_next (l : Txt) (i : Nat) : timesL (mulX l i) 2 = mulX l (i + 1) := by
  unfold mulX timesL
  rw [List.map_map]
  apply List.map_congr_left
  intro x _
  show mulG (mulG x (ex i)) 2 = _
  rw [show (2 : UInt8) = ex 1 from rfl, mulG_ex, mulG_ex, mulG_ex]; rfl
theorem mulX_len (l : Txt) (i : Nat) : (mulX l i).length = l.length := timesL_len l _
theorem mulX_get (l : Txt) (i j : Nat) : (mulX l i).getD j 0 = xp i (l.getD j 0) := by unfold mulX; rw [timesL_get, mulG_ex]
section
variable {F : List Nat} {w0 : World} {Γ : List A} {l : Txt} {n k2 k3 : Nat} {yv : Value} {x y : A}
/-- so far, and no further -/
theorem multiples_stop {N : Nat} {z : A} {Out : List A → Prop} (hl : l.length ≤ 1000000) (hN : N < n) (hn : n ≤ 1000)
    (hyes : ∀ k W, k < N → T F w0 W (x :: y :: blk k3 #[.int .i64 (n : Int)] 3 :: blk k2 #[.string (strB (mulX l k))] 9 :: Γ) → CallF Tryz.prog yv [.int .i64 (k : Int), .string (strB (mulX l k))] W fun e w' => e = .returned (.bool true) ∧ T F w0 w' (x :: y :: blk k3 #[.int .i64 (n : Int)] 3 :: blk k2 #[.string (strB (mulX l k))] 9 :: Γ))
    (hno : ∀ W, T F w0 W (x :: y :: blk k3 #[.int .i64 (n : Int)] 3 :: blk k2 #[.string (strB (mulX l N))] 9 :: Γ) → CallF Tryz.prog yv [.int .i64 (N : Int), .string (strB (mulX l N))] W fun e w' => e = .returned (.bool false) ∧ ∃ Γ', Out Γ' ∧ T F w0 w' (z :: y :: Γ'))
    (W : World) (hW : T F w0 W (x :: y :: blk k3 #[.int .i64 (n : Int)] 3 :: blk k2 #[.string (strB l)] 9 :: Γ)) :
    Calls Tryz.prog 49 #[yv, .pointer (some ⟨k3, 0, none⟩), .pointer (some ⟨k2, 0, none⟩)] W fun e w' => (∃ v, e = .returned v) ∧ ∃ Γ', Out Γ' ∧ T F w0 w' (z :: y :: Γ') := by
  refine (scrub_multiples_1_calls (R := fun v w' => ∃ Γ', Out Γ' ∧ T F w0 w' (z :: y :: Γ')) ?_).mono fun e w' ⟨v, he, h⟩ => ⟨⟨v, he⟩, h⟩
  unfold scrub_multiples_1
  refine ⟨_, hW.ld (b := k3) (by repeat (first | exact List.Mem.head _ | refine List.Mem.tail _ ?_)) rfl, ?_⟩
  refine ⟨fun vs w' => ∃ k : Nat, vs = [.int .i64 (k : Int)] ∧ k ≤ N ∧ T F w0 w' (x :: y :: blk k3 #[.int .i64 (n : Int)] 3 :: blk k2 #[.string (strB (mulX l k))] 9 :: Γ), fun vs _ => match vs with | [.int _ k] => (N - k).toNat | _ => 0, ⟨0, rfl, by omega, by rw [mulX_zero]; exact hW⟩, ?_⟩
  rintro vs w1 ⟨k, rfl, hk, h1⟩
  refine ⟨_, rfl, yes (decide_eq_true (by omega)) ⟨_, h1.ld (b := k2) (by repeat (first | exact List.Mem.head _ | refine List.Mem.tail _ ?_)) rfl, ?_⟩⟩
  by_cases hlt : k < N
  · refine CallF.mono (hyes k w1 hlt h1) fun e w2 ⟨he, h2⟩ => ⟨true, he, no rfl ⟨_, h2.ld (b := k2) (by repeat (first | exact List.Mem.head _ | refine List.Mem.tail _ ?_)) rfl, ?_⟩⟩
    refine (times_spec (strB (mulX l k)) 2 (by rw [strB_size, mulX_len]; omega) w2).mono fun e w3 ⟨he, hx3⟩ => ⟨_, he, ?_⟩
    have e3 : timesL (strB (mulX l k)).data.toList 2 = mulX l (k + 1) := mulX_next l k
    rw [e3]
    refine St.t (h2.quiet hx3) (by repeat (first | exact Turn.head | apply Turn.tail)) (by simp) (by rfl) rfl fun w4 h4 => ⟨⟨k + 1, ?_, by omega, h4⟩, ?_⟩
    · rw [wrap64 _ (by omega) (by omega)]; rfl
    · show ((N : Int) - IntKind.i64.wrap ((k : Int) + 1)).toNat < ((N : Int) - (k : Int)).toNat
      rw [wrap64 _ (by omega) (by omega)]; omega
  · have : k = N := by omega
    subst this
    exact CallF.mono (hno w1 h1) fun e w2 ⟨he, h2⟩ => ⟨false, he, yes rfl h2⟩
/-- all of them -/
theorem multiples_all (hl : l.length ≤ 1000000) (hn : n ≤ 1000)
    (hyes : ∀ k W, k < n → T F w0 W (x :: y :: blk k3 #[.int .i64 (n : Int)] 3 :: blk k2 #[.string (strB (mulX l k))] 9 :: Γ) → CallF Tryz.prog yv [.int .i64 (k : Int), .string (strB (mulX l k))] W fun e w' => e = .returned (.bool true) ∧ T F w0 w' (x :: y :: blk k3 #[.int .i64 (n : Int)] 3 :: blk k2 #[.string (strB (mulX l k))] 9 :: Γ))
    (W : World) (hW : T F w0 W (x :: y :: blk k3 #[.int .i64 (n : Int)] 3 :: blk k2 #[.string (strB l)] 9 :: Γ)) :
    Calls Tryz.prog 49 #[yv, .pointer (some ⟨k3, 0, none⟩), .pointer (some ⟨k2, 0, none⟩)] W fun e w' => (∃ v, e = .returned v) ∧ T F w0 w' (x :: y :: blk k3 #[.int .i64 (n : Int)] 3 :: blk k2 #[.string (strB (mulX l n))] 9 :: Γ) := by
  refine (scrub_multiples_1_calls (R := fun v w' => T F w0 w' (x :: y :: blk k3 #[.int .i64 (n : Int)] 3 :: blk k2 #[.string (strB (mulX l n))] 9 :: Γ)) ?_).mono fun e w' ⟨v, he, h⟩ => ⟨⟨v, he⟩, h⟩
  unfold scrub_multiples_1
  refine ⟨_, hW.ld (b := k3) (by repeat (first | exact List.Mem.head _ | refine List.Mem.tail _ ?_)) rfl, ?_⟩
  refine ⟨fun vs w' => ∃ k : Nat, vs = [.int .i64 (k : Int)] ∧ k ≤ n ∧ T F w0 w' (x :: y :: blk k3 #[.int .i64 (n : Int)] 3 :: blk k2 #[.string (strB (mulX l k))] 9 :: Γ), fun vs _ => match vs with | [.int _ k] => (n - k).toNat | _ => 0, ⟨0, rfl, by omega, by rw [mulX_zero]; exact hW⟩, ?_⟩
  rintro vs w1 ⟨k, rfl, hk, h1⟩
  refine ⟨_, rfl, dec_t fun hlt => ⟨_, h1.ld (b := k2) (by repeat (first | exact List.Mem.head _ | refine List.Mem.tail _ ?_)) rfl, ?_⟩, dec_f fun hge => ?_⟩
  · have hlt : k < n := by omega
    refine CallF.mono (hyes k w1 hlt h1) fun e w2 ⟨he, h2⟩ => ⟨true, he, no rfl ⟨_, h2.ld (b := k2) (by repeat (first | exact List.Mem.head _ | refine List.Mem.tail _ ?_)) rfl, ?_⟩⟩
    refine (times_spec (strB (mulX l k)) 2 (by rw [strB_size, mulX_len]; omega) w2).mono fun e w3 ⟨he, hx3⟩ => ⟨_, he, ?_⟩
    have e3 : timesL (strB (mulX l k)).data.toList 2 = mulX l (k + 1) := mulX_next l k
    rw [e3]
    refine St.t (h2.quiet hx3) (by repeat (first | exact Turn.head | apply Turn.tail)) (by simp) (by rfl) rfl fun w4 h4 => ⟨⟨k + 1, ?_, by omega, h4⟩, ?_⟩
    · rw [wrap64 _ (by omega) (by omega)]; rfl
    · show ((n : Int) - IntKind.i64.wrap ((k : Int) + 1)).toNat < ((n : Int) - (k : Int)).toNat
      rw [wrap64 _ (by omega) (by omega)]; omega
  · have hke : k = n := by omega
    subst hke
    exact h1
end
end Go.Proofs.YtdfkifgkccnaiaaGreatDoor
