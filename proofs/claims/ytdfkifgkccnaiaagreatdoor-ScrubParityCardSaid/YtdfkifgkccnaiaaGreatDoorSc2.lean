import Derived.Test.YtdfkifgkccnaiaaGreatDoorSc1
/-! scrub: Judge, Repair, Parity. -/
namespace Go.Proofs.YtdfkifgkccnaiaaGreatDoor
open Go.Sh Go.RowKit
set_option linter.unusedVariables false
set_option linter.unusedSimpArgs false
set_option maxRecDepth 20000
set_option maxHeartbeats 2000000
/-- the first column that would tell both sums -/
def firstK (p q : Txt) (n : Nat) : Option Nat := (List.range n).find? fun i => decide (mulX p i = q)
theorem firstK_some {p q : Txt} {n k : Nat} (h : firstK p q n = some k) : k < n ∧ mulX p k = q ∧ ∀ j, j < k → mulX p j ≠ q := by
  unfold firstK at h
  rw [List.find?_range_eq_some] at h
  obtain ⟨h1, h2, h3⟩ := h
  exact ⟨List.mem_range.1 h2, of_decide_eq_true h1, fun j hj => by simpa using h3 j hj⟩
theorem firstK_none {p q : Txt} {n : Nat} (h : firstK p q n = none) : ∀ j, j < n → mulX p j ≠ q := by
  unfold firstK at h
  rw [List.find?_range_eq_none] at h
  exact fun j hj => by simpa using h j hj
theorem firstK_is {p q : Txt} {n k : Nat} (h1 : k < n) (h2 : mulX p k = q) (h3 : ∀ j, j < k → mulX p j ≠ q) : firstK p q n = some k := by
  unfold firstK
  rw [List.find?_range_eq_some]
  exact ⟨decide_eq_true h2, List.mem_range.2 h1, fun j hj => by simpa using h3 j hj⟩
/-- the verdict of a row that may be judged -/
def judPQ (P Q : Txt) (n : Nat) : Int × Int :=
  if zB P then (if zB Q then ((0 : Int), (0 : Int)) else ((1 : Int), ((n + 1 : Nat) : Int)))
  else if zB Q then ((1 : Int), ((n : Nat) : Int))
  else match firstK P Q n with
    | some k => ((1 : Int), ((k : Nat) : Int))
    | none => ((2 : Int), (0 : Int))
def judV (L : List Txt) : Int × Int := judPQ (synP L) (synQ L) (L.length - 2)
theorem res3 {F : List Nat} {w0 w : World} {Γ : List A} {k6 k4 k3 k2 : Nat} {t6 t4 t3 t2 : TypeId} {c6 : Array Value} {x y z : Int} (a b c : Int) (hT : T F w0 w (blk k6 c6 t6 :: blk k4 #[.int .i64 z] t4 :: blk k3 #[.int .i64 y] t3 :: blk k2 #[.int .i64 x] t2 :: Γ)) {Q : Int → Int → Int → World → Prop} (hQ : ∀ w', Ext w0 w' ∨ True → T F w0 w' (blk k6 c6 t6 :: blk k4 #[.int .i64 c] t4 :: blk k3 #[.int .i64 b] t3 :: blk k2 #[.int .i64 a] t2 :: Γ) → Q a b c w') :
    St ⟨k2, 0, none⟩ (.int .i64 a) w fun w5 => St ⟨k3, 0, none⟩ (.int .i64 b) w5 fun w6 => St ⟨k4, 0, none⟩ (.int .i64 c) w6 fun w7 =>
      ∃ n2 : Int, w7.cell? ⟨k2, 0, none⟩ = some (.int .i64 n2) ∧ ∃ n3 : Int, w7.cell? ⟨k3, 0, none⟩ = some (.int .i64 n3) ∧ ∃ n4 : Int, w7.cell? ⟨k4, 0, none⟩ = some (.int .i64 n4) ∧ Q n2 n3 n4 w7 := by
  refine St.t hT (by repeat (first | exact Turn.head | apply Turn.tail)) (by simp) (by rfl) rfl fun w5 h5 => St.t h5 (by repeat (first | exact Turn.head | apply Turn.tail)) (by simp) (by rfl) rfl fun w6 h6 => St.t h6 (by repeat (first | exact Turn.head | apply Turn.tail)) (by simp) (by rfl) rfl fun w7 h7 => ?_
  exact ⟨a, h7.ld (b := k2) (by repeat (first | exact List.Mem.head _ | refine List.Mem.tail _ ?_)) rfl, b, h7.ld (b := k3) (by repeat (first | exact List.Mem.head _ | refine List.Mem.tail _ ?_)) rfl, c, h7.ld (b := k4) (by repeat (first | exact List.Mem.head _ | refine List.Mem.tail _ ?_)) rfl, hQ w7 (.inr trivial) h7⟩
theorem wrap2 {n : Nat} (h2 : 2 ≤ n) (h : n ≤ 100000) : IntKind.i64.wrap ((n : Int) - 2) = ((n - 2 : Nat) : Int) ∧ IntKind.i64.wrap (((n - 2 : Nat) : Int) + 1) = ((n - 2 + 1 : Nat) : Int) := by
  constructor
  · rw [wrap64 _ (by omega) (by omega)]; omega
  · rw [wrap64 _ (by omega) (by omega)]; omega
theorem judge_spec {L : List Txt} (hS : Short L) (hL : L.length ≤ 1000000) {p0 : Option Addr} {c0 : Nat} (hcl : L.length ≤ c0) {w : World} (hp : strsL w p0 L) :
    Calls Tryz.prog 14 #[.slice p0 L.length c0] w fun e w' => Ext w w' ∧ ((OkM L [] ∧ e = .returned (.tuple #[.int .i64 (judV L).1, .int .i64 (judV L).2, .int .i64 0])) ∨ (¬ OkM L [] ∧ e = .returned (.tuple #[.int .i64 0, .int .i64 0, .int .i64 1]))) := by
  refine (scrub_Judge_calls (R := fun v w' => Ext w w' ∧ ((OkM L [] ∧ v = .tuple #[.int .i64 (judV L).1, .int .i64 (judV L).2, .int .i64 0]) ∨ (¬ OkM L [] ∧ v = .tuple #[.int .i64 0, .int .i64 0, .int .i64 1]))) ?_).mono fun e w' ⟨v, he, hx, h⟩ => by
    refine ⟨hx, ?_⟩
    rcases h with ⟨h1, h2⟩ | ⟨h1, h2⟩
    · exact .inl ⟨h1, by rw [he, h2]⟩
    · exact .inr ⟨h1, by rw [he, h2]⟩
  unfold scrub_Judge
  refine Alloc.t (T.nil w) fun k2 w1 h1 => Alloc.t h1 fun k3 w2 h2 => Alloc.t h2 fun k4 w3 h3 => ?_
  have hm := may_spec (L := L) (lost := []) (c := c0) (d := 0) (by simp) hL hS (hp.ext h3.chg.ext) (q := none) ⟨fun h => absurd rfl h, fun a ha => by cases ha⟩
  refine hm.mono fun e w4 ⟨n, he, hx4, hok, hno⟩ => ⟨n, he, bne_t fun hn => ?_, bne_f fun hn => ?_⟩
  · have hk : ¬ OkM L [] := fun hk => hn (by rw [hok hk]; rfl)
    have h4 := h3.quiet hx4
    refine St.t h4 (by repeat (first | exact Turn.head | apply Turn.tail)) (by simp) (by rfl) rfl fun w5 h5 => St.t h5 (by repeat (first | exact Turn.head | apply Turn.tail)) (by simp) (by rfl) rfl fun w6 h6 => St.t h6 (by repeat (first | exact Turn.head | apply Turn.tail)) (by simp) (by rfl) rfl fun w7 h7 => ?_
    exact ⟨0, h7.ld (b := k2) (by repeat (first | exact List.Mem.head _ | refine List.Mem.tail _ ?_)) rfl, 0, h7.ld (b := k3) (by repeat (first | exact List.Mem.head _ | refine List.Mem.tail _ ?_)) rfl, 1, h7.ld (b := k4) (by repeat (first | exact List.Mem.head _ | refine List.Mem.tail _ ?_)) rfl, h7.chg.ext, .inr ⟨hk, rfl⟩⟩
  have hk : OkM L [] := Classical.byContradiction fun h => by have := hno h; omega
  have n4 := hk.n4
  have n10 := hk.n10
  have h4 := h3.quiet hx4
  refine (sum_spec hS (by omega) (by omega) hcl (hp.ext h4.chg.ext)).mono fun e w8 ⟨he, hx8⟩ => ⟨_, _, he, ?_⟩
  have h8 := h4.quiet hx8
  have hpl := synP_len hS
  have hql := synQ_len hS
  obtain ⟨ew2, ew1⟩ := wrap2 (n := L.length) (by omega) (by omega)
  simp only [ew2, ew1]
  have hjv : judV L = judPQ (synP L) (synQ L) (L.length - 2) := rfl
  generalize synP L = P at hpl hjv
  generalize synQ L = Q at hql hjv
  unfold judPQ at hjv
  refine Alloc.t h8 fun k6 w9 h9 => St.t h9 (by repeat (first | exact Turn.head | apply Turn.tail)) (by simp) (by rfl) rfl fun w10 h10 => Join.intro fun J hJ => ?_
  refine ⟨fun w' => T [] w w' [blk k6 #[.string (strB Q)] 9, blk k4 #[.int .i64 0] 25, blk k3 #[.int .i64 0] 3, blk k2 #[.int .i64 0] 3], h10.drew, ?_⟩
  refine (zero_spec P (by omega) _).mono fun e w22 ⟨he, hx22⟩ => ⟨_, he, h10.drew.quiet hx22, strB Q, fun w' h' => h'.ld (b := k6) (by repeat (first | exact List.Mem.head _ | refine List.Mem.tail _ ?_)) rfl, ?_⟩
  refine (zero_spec Q (by omega) _).mono fun e w23 ⟨he, hx23⟩ => ?_
  have h23 := h10.drew.quiet (hx22.trans hx23)
  refine ⟨_, he, h23, ?_⟩
  have fin : ∀ (a b : Int) (w' : World), judV L = (a, b) → T [] w w' [blk k6 #[.string (strB Q)] 9, blk k4 #[.int .i64 0] 25, blk k3 #[.int .i64 b] 3, blk k2 #[.int .i64 a] 3] → Ext w w' ∧ ((OkM L [] ∧ (Value.tuple #[.int .i64 a, .int .i64 b, .int .i64 0]) = .tuple #[.int .i64 (judV L).1, .int .i64 (judV L).2, .int .i64 0]) ∨ (¬ OkM L [] ∧ (Value.tuple #[.int .i64 a, .int .i64 b, .int .i64 0]) = .tuple #[.int .i64 0, .int .i64 0, .int .i64 1])) := fun a b w' hj hT => ⟨hT.chg.ext, .inl ⟨hk, by rw [hj]⟩⟩
  have loop : zB P = false → zB Q = false → J [] w23 := by
    intro hzp hzq
    rw [hzp, hzq] at hjv
    refine hJ _ _ ⟨rfl, ?_⟩
    refine (scrub_multiples_calls (R := fun v w' => ∃ a b, v = .func (.func 49) #[] #[.pointer (some ⟨b, 0, none⟩), .pointer (some ⟨a, 0, none⟩)] ∧ T [] w w' (blk b #[.int .i64 ((L.length - 2 : Nat) : Int)] 3 :: blk a #[.string (strB P)] 9 :: [blk k6 #[.string (strB Q)] 9, blk k4 #[.int .i64 0] 25, blk k3 #[.int .i64 0] 3, blk k2 #[.int .i64 0] 3])) ?_).mono ?_
    · unfold scrub_multiples
      exact Alloc.t h23 fun a w1 h1 => Alloc.t h1 fun b w2 h2 => ⟨a, b, rfl, h2⟩
    rintro e w12 ⟨v, he, a, b, rfl, h12⟩
    refine ⟨_, he, ?_⟩
    cases hf : firstK P Q (L.length - 2) with
    | none =>
      rw [hf] at hjv
      have hne := firstK_none hf
      refine RangeA.t (by kernel_rfl) h12 (N := L.length - 2) (arg := fun k => [.int .i64 (k : Int), .string (strB (mulX P k))])
        (Inv := fun k Γk => Γk = blk b #[.int .i64 ((L.length - 2 : Nat) : Int)] 3 :: blk a #[.string (strB (mulX P k))] 9 :: [blk k6 #[.string (strB Q)] 9, blk k4 #[.int .i64 0] 25, blk k3 #[.int .i64 0] 3, blk k2 #[.int .i64 0] 3])
        (Mid := fun k Γk => Γk = blk b #[.int .i64 ((L.length - 2 : Nat) : Int)] 3 :: blk a #[.string (strB (mulX P k))] 9 :: [blk k6 #[.string (strB Q)] 9, blk k4 #[.int .i64 0] 25, blk k3 #[.int .i64 0] 3, blk k2 #[.int .i64 0] 3]) ?_ ?_ ?_
      · intro yv x y hyes W hW
        refine (multiples_all (n := L.length - 2) (by omega) (by omega) (fun k W hk h => CallF.mono (hyes k W _ hk rfl h) fun e w' ⟨he, Γ', hm, hT⟩ => ⟨he, by rw [← hm]; exact hT⟩) W hW).mono fun e w' ⟨hv, h⟩ => ⟨hv, _, rfl, h⟩
      · rintro obf l d k Γk W Φ hkn rfl hW hΦ
        refine ⟨_, _, rfl, ?_⟩
        refine RoundP.t hW (G := fun Γ' => Γ' = ob d (.deferred (some [])) :: blk b #[.int .i64 ((L.length - 2 : Nat) : Int)] 3 :: blk a #[.string (strB (mulX P k))] 9 :: [blk k6 #[.string (strB Q)] 9, blk k4 #[.int .i64 0] 25, blk k3 #[.int .i64 0] 3, blk k2 #[.int .i64 0] 3]) ?_ ?_
        · rintro Γ' w' rfl h'
          exact hΦ _ w' rfl h'
        · intro K X R w13 h13 hK
          refine ⟨_, h13.ld (b := k6) (by repeat (first | exact List.Mem.head _ | refine List.Mem.tail _ ?_)) rfl, ?_⟩
          rw [strB_toList, strB_toList]
          exact no (by simpa using hne k hkn) (hK _ w13 rfl h13)
      · rintro d Γ' w' rfl h'
        refine St.t h' (by repeat (first | exact Turn.head | apply Turn.tail)) (by simp) (by rfl) rfl fun w5 h5 => St.t h5 (by repeat (first | exact Turn.head | apply Turn.tail)) (by simp) (by rfl) rfl fun w6 h6 => St.t h6 (by repeat (first | exact Turn.head | apply Turn.tail)) (by simp) (by rfl) rfl fun w7 h7 => ?_
        refine ⟨h7.got List.mem_cons_self, ?_⟩
        have h8 := h7.putTop (o' := .deferred none)
        refine ⟨_, h8.ld (b := k2) (by repeat (first | exact List.Mem.head _ | refine List.Mem.tail _ ?_)) rfl, _, h8.ld (b := k3) (by repeat (first | exact List.Mem.head _ | refine List.Mem.tail _ ?_)) rfl, _, h8.ld (b := k4) (by repeat (first | exact List.Mem.head _ | refine List.Mem.tail _ ?_)) rfl, ?_⟩
        exact fin 2 0 _ hjv (T.drop (T.drop (T.drop h8)))
    | some N =>
      rw [hf] at hjv
      obtain ⟨hN, hNe, hNn⟩ := firstK_some hf
      refine RangeR.t (by kernel_rfl) h12 (N := N) (arg := fun k => [.int .i64 (k : Int), .string (strB (mulX P k))])
        (Inv := fun k Γk => Γk = blk b #[.int .i64 ((L.length - 2 : Nat) : Int)] 3 :: blk a #[.string (strB (mulX P k))] 9 :: [blk k6 #[.string (strB Q)] 9, blk k4 #[.int .i64 0] 25, blk k3 #[.int .i64 0] 3, blk k2 #[.int .i64 0] 3])
        (Mid := fun k Γk => Γk = blk b #[.int .i64 ((L.length - 2 : Nat) : Int)] 3 :: blk a #[.string (strB (mulX P k))] 9 :: [blk k6 #[.string (strB Q)] 9, blk k4 #[.int .i64 0] 25, blk k3 #[.int .i64 0] 3, blk k2 #[.int .i64 0] 3])
        (Out := fun Γk => Γk = blk b #[.int .i64 ((L.length - 2 : Nat) : Int)] 3 :: blk a #[.string (strB (mulX P N))] 9 :: [blk k6 #[.string (strB Q)] 9, blk k4 #[.int .i64 0] 25, blk k3 #[.int .i64 (N : Int)] 3, blk k2 #[.int .i64 1] 3]) ?_ ?_ ?_ ?_
      · intro yv x y z hyes hno W hW
        exact (multiples_stop (n := L.length - 2) (by omega) hN (by omega) (fun k W hk h => CallF.mono (hyes k W _ hk rfl h) fun e w' ⟨he, Γ', hm, hT⟩ => ⟨he, by rw [← hm]; exact hT⟩) (fun W h => hno W _ rfl h) W hW)
      · rintro obf l d k Γk W Φ hkn rfl hW hΦ
        refine ⟨_, _, rfl, ?_⟩
        refine RoundP.t hW (G := fun Γ' => Γ' = ob d (.deferred (some [])) :: blk b #[.int .i64 ((L.length - 2 : Nat) : Int)] 3 :: blk a #[.string (strB (mulX P k))] 9 :: [blk k6 #[.string (strB Q)] 9, blk k4 #[.int .i64 0] 25, blk k3 #[.int .i64 0] 3, blk k2 #[.int .i64 0] 3]) ?_ ?_
        · rintro Γ' w' rfl h'
          exact hΦ _ w' rfl h'
        · intro K X R w13 h13 hK
          refine ⟨_, h13.ld (b := k6) (by repeat (first | exact List.Mem.head _ | refine List.Mem.tail _ ?_)) rfl, ?_⟩
          rw [strB_toList, strB_toList]
          exact no (by simpa using hNn k hkn) (hK _ w13 rfl h13)
      · rintro obf l d Γk W Φ rfl hW hΦ
        refine ⟨_, _, rfl, ?_⟩
        refine RoundR.t hW (G := fun Γ' => Γ' = ob d (.deferred (some [])) :: blk b #[.int .i64 ((L.length - 2 : Nat) : Int)] 3 :: blk a #[.string (strB (mulX P N))] 9 :: [blk k6 #[.string (strB Q)] 9, blk k4 #[.int .i64 0] 25, blk k3 #[.int .i64 (N : Int)] 3, blk k2 #[.int .i64 1] 3]) ?_ ?_
        · rintro Γ' w' rfl h'
          exact hΦ _ w' rfl h'
        · intro K X R w13 h13 hR
          refine ⟨_, h13.ld (b := k6) (by repeat (first | exact List.Mem.head _ | refine List.Mem.tail _ ?_)) rfl, ?_⟩
          rw [strB_toList, strB_toList]
          refine yes (by simpa using hNe) ?_
          refine St.t h13 (by repeat (first | exact Turn.head | apply Turn.tail)) (by simp) (by rfl) rfl fun w5 h5 => St.t h5 (by repeat (first | exact Turn.head | apply Turn.tail)) (by simp) (by rfl) rfl fun w6 h6 => St.t h6 (by repeat (first | exact Turn.head | apply Turn.tail)) (by simp) (by rfl) rfl fun w7 h7 => hR _ w7 rfl h7
      · rintro d Γ' w' rfl h'
        refine ⟨h'.got List.mem_cons_self, ?_⟩
        have h8 := h'.putTop (o' := .deferred none)
        refine ⟨_, h8.ld (b := k2) (by repeat (first | exact List.Mem.head _ | refine List.Mem.tail _ ?_)) rfl, _, h8.ld (b := k3) (by repeat (first | exact List.Mem.head _ | refine List.Mem.tail _ ?_)) rfl, _, h8.ld (b := k4) (by repeat (first | exact List.Mem.head _ | refine List.Mem.tail _ ?_)) rfl, ?_⟩
        exact fin 1 N _ hjv (T.drop (T.drop (T.drop h8)))
  cases hzp : zB P with
  | true =>
    cases hzq : zB Q with
    | true =>
      rw [hzp, hzq] at hjv
      exact yes rfl (yes rfl (res3 0 0 0 h23 fun w' _ h' => fin 0 0 w' hjv h'))
    | false =>
      rw [hzp, hzq] at hjv
      exact yes rfl (no rfl (no rfl (yes rfl (res3 1 ((L.length - 2 + 1 : Nat) : Int) 0 h23 fun w' _ h' => fin _ _ w' hjv h'))))
  | false =>
    cases hzq : zB Q with
    | true =>
      rw [hzp, hzq] at hjv
      exact no rfl (yes rfl (res3 1 ((L.length - 2 : Nat) : Int) 0 h23 fun w' _ h' => fin _ _ w' hjv h'))
    | false => exact no rfl (no rfl (no rfl (loop hzp hzq)))
end Go.Proofs.YtdfkifgkccnaiaaGreatDoor
