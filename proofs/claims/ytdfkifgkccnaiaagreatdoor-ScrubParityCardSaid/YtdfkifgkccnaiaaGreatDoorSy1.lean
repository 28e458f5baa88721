import Derived.Test.YtdfkifgkccnaiaaGreatDoorGf4
import Derived.Laws.Slices
/-! syndrome: slices of texts; a range over a function that is broken off; added, P, Q, Sum. -/
namespace Go.Sh
open Go.RowKit
set_option linter.unusedVariables false
theorem RoundX.t {obf : LoopState → Option Code → Obj} {l i : Nat} {Φ : Value → World → Prop} {body : (World → Prop) → (Nat → World → Prop) → (World → Prop) → World → Prop} {F : List Nat} {w0 W : World} {Γ : List A}
    (hT : T F w0 W (ob l (obf .ready none) :: Γ)) {G : List A → Prop} (hΦ : ∀ Γ' w', G Γ' → T F w0 w' (ob l (obf .done (some (.exit i))) :: Γ') → Φ (.bool false) w')
    (hb : ∀ K X R w1, T F w0 w1 (ob l (obf .busy none) :: Γ) → (∀ Γ' w2, G Γ' → T F w0 w2 (ob l (obf .busy none) :: Γ') → X i w2) → body K X R w1) : RoundP obf l Φ body W :=
  ⟨hT.got List.mem_cons_self, hb _ _ _ _ hT.putTop fun Γ' w2 hg h2 => ⟨h2.got List.mem_cons_self, hΦ Γ' _ hg h2.putTop⟩⟩
theorem RangeX.t {P : Program} {round : (LoopState → Option Code → Obj) → Nat → List Value → World → (Value → World → Prop) → Prop} {i : Nat} {Kx K R : Nat → World → Prop} {f : FuncId} {first cap : Array Value} (hb : bodyB P f = true)
    {F : List Nat} {w0 w : World} {Γ : List A} (hT : T F w0 w Γ) {N : Nat} {arg : Nat → List Value} {Inv : Nat → List A → Prop} {Out : List A → Prop} (h0 : Inv 0 Γ)
    (hcallee : ∀ (yv : Value) (J : Nat → World → Prop) (E : World → Prop), (∀ k W W', J k W → Ext W W' → J k W') → (∀ k W, k < N → J k W → CallF P yv (arg k) W fun e w' => e = .returned (.bool true) ∧ J (k + 1) w') → (∀ W, J N W → CallF P yv (arg N) W fun e w' => e = .returned (.bool false) ∧ E w') →
      ∀ W, J 0 W → Calls P f (first.toList ++ [yv] ++ cap.toList).toArray W fun e w' => (∃ v, e = .returned v) ∧ E w')
    (hround : ∀ (obf : LoopState → Option Code → Obj) (l d k : Nat) (Γk : List A) (W : World) (Φ : Value → World → Prop), k < N → Inv k Γk → T F w0 W (ob l (obf .ready none) :: ob d (.deferred (some [])) :: Γk) →
      (∀ Γ' w', Inv (k + 1) Γ' → T F w0 w' (ob l (obf .ready none) :: ob d (.deferred (some [])) :: Γ') → Φ (.bool true) w') → round obf l (arg k) W Φ)
    (hbrk : ∀ (obf : LoopState → Option Code → Obj) (l d : Nat) (Γk : List A) (W : World) (Φ : Value → World → Prop), Inv N Γk → T F w0 W (ob l (obf .ready none) :: ob d (.deferred (some [])) :: Γk) →
      (∀ Γ' w', Out Γ' → T F w0 w' (ob l (obf .done (some (.exit i))) :: ob d (.deferred (some [])) :: Γ') → Φ (.bool false) w') → round obf l (arg N) W Φ)
    (hK : ∀ d Γ' w', Out Γ' → T F w0 w' (ob d (.deferred (some [])) :: Γ') → Kx d w') : RangeP P (.func (.func f) first cap) round [(i, Kx)] K R w := by
  intro obf hob hyield
  refine ⟨f, first, cap, rfl, hb, ?_⟩
  have hsz : (w.alloc (.deferred (some []))).heap.size = w.heap.size + 1 := by simp
  have h2 := (hT.alloc (.deferred (some []))).alloc (obf .ready none)
  rw [hsz] at h2
  refine (hcallee (.func (.yield (w.heap.size + 1)) #[] #[]) (fun k W => ∃ Γk, Inv k Γk ∧ T F w0 W (ob (w.heap.size + 1) (obf .ready none) :: ob w.heap.size (.deferred (some [])) :: Γk)) (fun W => ∃ Γk, Out Γk ∧ T F w0 W (ob (w.heap.size + 1) (obf .done (some (.exit i))) :: ob w.heap.size (.deferred (some [])) :: Γk)) (fun k W W' ⟨Γk, hi, h⟩ hx => ⟨Γk, hi, h.quiet hx⟩) ?_ ?_ _ ⟨Γ, h0, h2⟩).mono ?_
  · rintro k W hk ⟨Γk, hi, h⟩
    show CallV P (.func (.yield (w.heap.size + 1)) #[] #[]) (arg k) W _
    refine hyield _ _ _ (h.got List.mem_cons_self) (hround obf _ w.heap.size k Γk W _ hk hi h fun Γ' w' hi' h' => ⟨rfl, Γ', hi', h'⟩)
  · rintro W ⟨Γk, hi, h⟩
    show CallV P (.func (.yield (w.heap.size + 1)) #[] #[]) (arg N) W _
    refine hyield _ _ _ (h.got List.mem_cons_self) (hbrk obf _ w.heap.size Γk W _ hi h fun Γ' w' hi' h' => ⟨rfl, Γ', hi', h'⟩)
  · rintro e w3 ⟨hv, Γk, hi, h⟩
    refine ⟨hv, .done, some (.exit i), h.got List.mem_cons_self, by simp, .inr (.inr (.inl ⟨rfl, hK _ Γk _ hi h.putTop.drop⟩))⟩
end Go.Sh
namespace Go.Proofs.YtdfkifgkccnaiaaGreatDoor
open Go.Sh Go.RowKit
set_option linter.unusedVariables false
set_option linter.unusedSimpArgs false
set_option maxRecDepth 20000
set_option maxHeartbeats 1000000
/-- texts, as lists of bytes, that lie in a row -/
def strsL (w : World) (p : Option Addr) (L : List (List UInt8)) : Prop := strsAt w p (L.map strB)
theorem strsL.ext {w w' : World} {p : Option Addr} {L : List (List UInt8)} (h : strsL w p L) (hx : Ext w w') : strsL w' p L := strsAt.ext h hx
theorem strsL.get {w : World} {p : Option Addr} {L : List (List UInt8)} (h : strsL w p L) {n : Nat} (h1 : n < L.length) : ∃ a, p = some a ∧ w.cell? (a.add (n * 1)) = some (.string (strB (L.getD n []))) := by
  obtain ⟨a, ha⟩ := h.1 (by intro e; rw [List.map_eq_nil_iff] at e; subst e; simp at h1)
  refine ⟨a, ha, ?_⟩
  rw [Nat.mul_one]
  exact h.2 a ha n _ (by simp [h1])
theorem strsL.take {w : World} {p : Option Addr} {L : List (List UInt8)} (h : strsL w p L) (n : Nat) : strsL w p (L.take n) := by
  refine ⟨fun hn => h.1 (by intro e; rw [List.map_eq_nil_iff] at e; subst e; simp at hn), fun a ha j s hj => h.2 a ha j s ?_⟩
  rw [List.map_take, List.getElem?_take] at hj
  split at hj
  · exact hj
  · cases hj
theorem add_add (a : Addr) (m n : Nat) : (a.add m).add n = a.add (m + n) := by
  unfold Addr.add
  by_cases h1 : m = 0
  · subst h1; simp
  · by_cases h2 : n = 0
    · subst h2; simp [h1]
    · simp [h1, h2, Nat.add_assoc]
theorem add_zero (a : Addr) : a.add 0 = a := by simp [Addr.add]
/-- where what is cut off in front begins -/
def cutP (p : Option Addr) (c n : Nat) : Option Addr := if c = n then p else p.map (·.add n)
theorem strsL.drop {w : World} {p : Option Addr} {L : List (List UInt8)} (h : strsL w p L) {c n : Nat} (hc : L.length ≤ c) : strsL w (cutP p c n) (L.drop n) := by
  unfold cutP
  by_cases e : c = n
  · have : L.drop n = [] := by simp; omega
    rw [this]
    exact ⟨fun hn => absurd rfl hn, fun a ha j s hj => by simp at hj⟩
  · rw [if_neg e]
    refine ⟨fun hn => ?_, fun a ha j s hj => ?_⟩
    · obtain ⟨a, ha⟩ := h.1 (by intro e; rw [List.map_eq_nil_iff] at e; subst e; simp at hn)
      exact ⟨_, by rw [ha]; rfl⟩
    · obtain ⟨a', ha', rfl⟩ := Option.map_eq_some_iff.1 ha
      rw [List.map_drop, List.getElem?_drop] at hj
      rw [add_add]
      exact h.2 a' ha' _ s hj
theorem T.strs {F : List Nat} {w0 w : World} {Γ : List A} {g : Option Nat} {n cap : Nat} {L : List (List UInt8)} (hT : T F w0 w Γ) (hm : rowP 9 1 g n cap (L.map fun x => .string (strB x)) ∈ Γ) : strsL w (ptr g) L ∧ L.length = n ∧ n ≤ cap := by
  have hs := hT.says hm
  have hl := rowP.len hs
  rw [List.length_map, Nat.mul_one] at hl
  refine ⟨⟨fun hn => ?_, fun a ha j s hj => ?_⟩, hl, hs.2.1⟩
  · obtain ⟨b, rfl⟩ := rowP.pos hs (by
      cases L with
      | nil => exact absurd rfl hn
      | cons x L => simp at hl; omega)
    exact ⟨_, rfl⟩
  · cases g with
    | none => cases ha
    | some b =>
      cases ha
      rw [addr_add, Nat.zero_add]
      refine rowP.cell hs ?_
      rw [List.getElem?_map] at hj ⊢
      cases hq : L[j]? with
      | none => rw [hq] at hj; cases hj
      | some x => rw [hq] at hj; cases hj; rfl
theorem sizeStr (w : World) : (sizeOf (Tryz.prog.elem 22)).run Tryz.prog w = .ok 1 w := by kernel_rfl
theorem strs_to {p : Option Addr} {n c : Nat} {hi : Int} (h0 : 0 ≤ hi) (h2 : hi ≤ (c : Int)) (w : World) : (Instr.sliceAt 22 (.slice p n c) none (some (.int .i64 hi)) none).run Tryz.prog w = .ok (.slice p hi.toNat c) w := by
  rw [run_sliceAt_slice w _ _ _ _ _ (by kernel_rfl), run_slice_h w _ _ _ _ (by kernel_rfl) _ _ h0 h2, sizeStr]
  simp only [Result.andThen, sliced, Nat.zero_mul, Nat.sub_zero]
  congr 2
  split
  · rfl
  · cases p with
    | none => rfl
    | some a => simp [add_zero]
theorem strs_from {p : Option Addr} {n c : Nat} {lo : Int} (h0 : 0 ≤ lo) (h1 : lo ≤ (n : Int)) (w : World) : (Instr.sliceAt 22 (.slice p n c) (some (.int .i64 lo)) none none).run Tryz.prog w = .ok (.slice (cutP p c lo.toNat) (n - lo.toNat) (c - lo.toNat)) w := by
  rw [run_sliceAt_slice w _ _ _ _ _ (by kernel_rfl), run_slice_l w _ _ _ _ (by kernel_rfl) _ _ h0 h1, sizeStr]
  simp only [Result.andThen, sliced, Nat.mul_one]
  rfl
/-- no text is longer -/
def Short (L : List (List UInt8)) : Prop := ∀ x ∈ L, x.length ≤ 1000000
theorem Short.get {L : List (List UInt8)} (h : Short L) (n : Nat) : (L.getD n []).length ≤ 1000000 := by
  rw [List.getD_eq_getElem?_getD]
  cases hq : L[n]? with
  | none => simp
  | some x => exact h x (List.mem_of_getElem? hq)
theorem Short.take {L : List (List UInt8)} (h : Short L) (n : Nat) : Short (L.take n) := fun x hx => h x (List.mem_of_mem_take hx)
def sAcc (L : List (List UInt8)) : Nat → List UInt8
  | 0 => []
  | m + 1 => xorT (sAcc L m) (L.getD m [])
/-- the sum of texts -/
def sumT (L : List (List UInt8)) : List UInt8 := sAcc L L.length
def qAcc (L : List (List UInt8)) : Nat → List UInt8
  | 0 => []
  | m + 1 => xorT (qAcc L m) (timesL (L.getD m []) (ex m))
/-- the sum, each times its power -/
def qT (L : List (List UInt8)) : List UInt8 := qAcc L L.length
theorem timesL_len (l : List UInt8) (b : UInt8) : (timesL l b).length = l.length := List.length_map ..
theorem sAcc_len {L : List (List UInt8)} (h : Short L) : ∀ m, (sAcc L m).length ≤ 1000000
  | 0 => by simp [sAcc]
  | m + 1 => by have := sAcc_len h m; have := h.get m; simp only [sAcc, xorT_len]; omega
theorem qAcc_len {L : List (List UInt8)} (h : Short L) : ∀ m, (qAcc L m).length ≤ 1000000
  | 0 => by simp [qAcc]
  | m + 1 => by have := qAcc_len h m; have := h.get m; simp only [qAcc, xorT_len, timesL_len]; omega
theorem added_spec {L : List (List UInt8)} (hS : Short L) (hn : L.length ≤ 1000000) {p : Option Addr} {c : Nat} {w : World} (h : strsL w p L) : Ret Tryz.prog 36 #[.slice p L.length c] w (.string (strB (sumT L))) := by
  refine ret_of (syndrome_added_calls ?_)
  unfold syndrome_added
  refine ⟨fun vs w' => ∃ i : Nat, vs = [.string (strB (sAcc L i)), .int .i64 (i : Int)] ∧ i ≤ L.length ∧ Ext w w', fun vs _ => match vs with | [_, .int _ i] => (L.length - i).toNat | _ => 0, ⟨0, rfl, by omega, .refl w⟩, ?_⟩
  rintro vs w1 ⟨i, rfl, hi, hx⟩
  refine ⟨_, _, rfl, dec_t fun hlt => ?_, dec_f fun hge => ?_⟩
  · have hlt : i < L.length := by omega
    obtain ⟨a, ha, hc⟩ := (h.ext hx).get hlt
    refine ⟨a, ha, by omega, by omega, _, by rw [Int.toNat_natCast]; exact hc, ?_⟩
    refine (xor_spec (strB (sAcc L i)) (strB (L.getD i [])) (by rw [strB_size]; have := sAcc_len hS i; omega) (by rw [strB_size]; have := hS.get i; omega) w1).mono fun e w2 ⟨he, hx2⟩ => ⟨_, he, ⟨i + 1, ?_, by omega, hx.trans hx2⟩, ?_⟩
    · rw [wrap64 _ (by omega) (by omega)]; rfl
    · show ((L.length : Int) - IntKind.i64.wrap ((i : Int) + 1)).toNat < ((L.length : Int) - (i : Int)).toNat
      rw [wrap64 _ (by omega) (by omega)]; omega
  · have hie : i = L.length := by omega
    subst hie
    exact ⟨rfl, hx⟩
theorem p_spec {L : List (List UInt8)} (hS : Short L) (hn : L.length ≤ 1000000) {p : Option Addr} {c : Nat} {w : World} (h : strsL w p L) : Ret Tryz.prog 21 #[.slice p L.length c] w (.string (strB (sumT L))) := by
  refine ret_of (syndrome_P_calls ?_)
  unfold syndrome_P
  exact (added_spec hS hn h).mono fun e w1 ⟨he, hx⟩ => ⟨_, he, rfl, hx⟩
theorem lg_ex {k : Nat} (h : k < 255) : lg (ex k) = k := ex_inj (lg_lt _) h (ex_lg (ex_ne k))
theorem powers_spec {N : Nat} (hN : N < 255) {yv : Value} {J : Nat → World → Prop} {E : World → Prop} (hq : ∀ k W W', J k W → Ext W W' → J k W')
    (h1 : ∀ k W, k < N → J k W → CallF Tryz.prog yv [.int .u8 ((ex k).toNat : Int)] W fun e w' => e = .returned (.bool true) ∧ J (k + 1) w')
    (h2 : ∀ W, J N W → CallF Tryz.prog yv [.int .u8 ((ex N).toNat : Int)] W fun e w' => e = .returned (.bool false) ∧ E w') (W : World) (h0 : J 0 W) :
    Calls Tryz.prog 60 #[yv] W fun e w' => (∃ v, e = .returned v) ∧ E w' := by
  refine (syndrome_powers_1_calls (R := fun v w' => E w') ?_).mono fun e w' ⟨v, he, h⟩ => ⟨⟨v, he⟩, h⟩
  unfold syndrome_powers_1
  refine ⟨fun vs w' => ∃ k : Nat, vs = [.int .u8 ((ex k).toNat : Int)] ∧ k ≤ N ∧ J k w', fun vs _ => match vs with | [.int _ x] => N - lg (UInt8.ofNat x.toNat) | _ => 0, ⟨0, rfl, by omega, h0⟩, ?_⟩
  rintro vs w1 ⟨k, rfl, hk, hJ⟩
  refine ⟨_, rfl, ?_⟩
  by_cases hlt : k < N
  · refine CallF.mono (h1 k w1 hlt hJ) fun e w2 ⟨he, hJ2⟩ => ⟨true, he, yes rfl ?_⟩
    refine (dbl_spec (ex k) w2).mono fun e w3 ⟨he, hx⟩ => ⟨_, he, ⟨k + 1, rfl, by omega, hq _ _ _ hJ2 hx⟩, ?_⟩
    show N - lg (UInt8.ofNat (((xt (ex k)).toNat : Int)).toNat) < N - lg (UInt8.ofNat (((ex k).toNat : Int)).toNat)
    rw [Int.toNat_natCast, Int.toNat_natCast, UInt8.ofNat_toNat, UInt8.ofNat_toNat, show xt (ex k) = ex (k + 1) from rfl, lg_ex (by omega), lg_ex (by omega)]
    omega
  · have : k = N := by omega
    subst this
    exact CallF.mono (h2 w1 hJ) fun e w2 ⟨he, hE⟩ => ⟨false, he, no rfl hE⟩
end Go.Proofs.YtdfkifgkccnaiaaGreatDoor
