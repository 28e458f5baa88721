import Derived.Test.YtbecjmfcppginaaM2
import Derived.Test.YtbecjmfcppginaaM9
import Derived.Test.YtbecjmfcppginaaM10
section
/-! the reference's drive: Flush, Crash, Off, New. -/
namespace Go.Proofs.Ytbecjmfcppginaa
open Go.Sh Go.Maps Go.RowKit
set_option linter.unusedVariables false
set_option maxHeartbeats 1000000
set_option maxRecDepth 20000
def cnt (pend : Nat → List ByteArray) : Nat → Nat → Nat
  | _, 0 => 0
  | i, n + 1 => (if pend i = [] then 0 else 1) + cnt pend (i + 1) n
theorem cnt_snoc (pend : Nat → List ByteArray) : ∀ (n i : Nat), cnt pend i (n + 1) = cnt pend i n + if pend (i + n) = [] then 0 else 1
  | 0, i => by simp [cnt]
  | n + 1, i => by
    have h := cnt_snoc pend n (i + 1)
    rw [show i + 1 + n = i + (n + 1) by omega] at h
    show (if pend i = [] then 0 else 1) + cnt pend (i + 1) (n + 1) = (if pend i = [] then 0 else 1) + cnt pend (i + 1) n + _
    rw [h]
    omega
theorem cnt_le (pend : Nat → List ByteArray) : ∀ (n i : Nat), cnt pend i n ≤ n
  | 0, i => Nat.le_refl _
  | n + 1, i => by
    have h := cnt_le pend n (i + 1)
    show (if pend i = [] then 0 else 1) + cnt pend (i + 1) n ≤ n + 1
    split <;> omega
theorem keptFrom_snoc (g : Nat → Nat → Nat) (pend : Nat → List ByteArray) (s : ByteArray) : ∀ (l : List ByteArray) (i k : Nat),
    keptFrom g pend i k (l ++ [s]) = keptFrom g pend i k l ++ [if pend (i + l.length) = [] then s else if 0 < g (k + cnt pend i l.length) (pend (i + l.length)).length then (pend (i + l.length)).getD (g (k + cnt pend i l.length) (pend (i + l.length)).length - 1) noB else s]
  | [], i, k => by
    simp only [List.nil_append, keptFrom, List.length_nil, Nat.add_zero, cnt]
    split <;> rfl
  | x :: l, i, k => by
    have h1 := keptFrom_snoc g pend s l (i + 1) k
    have h2 := keptFrom_snoc g pend s l (i + 1) (k + 1)
    rw [show i + 1 + l.length = i + (x :: l).length by simp; omega] at h1 h2
    simp only [List.cons_append, keptFrom]
    have hc : cnt pend i (x :: l).length = (if pend i = [] then 0 else 1) + cnt pend (i + 1) l.length := rfl
    by_cases hp : pend i = []
    · rw [if_pos hp, if_pos hp, h1, hc, if_pos hp, Nat.zero_add]; rfl
    · rw [if_neg hp, if_neg hp, h2, hc, if_neg hp, show k + 1 + cnt pend (i + 1) l.length = k + (1 + cnt pend (i + 1) l.length) by omega]; rfl
/-- the first i sectors are settled -/
def AD.part (a : AD) (g : Nat → Nat → Nat) (i : Nat) : AD := { a with safe := keptFrom g a.pend 0 0 (a.safe.take i) ++ a.safe.drop i, pend := fun j => if j < i then [] else a.pend j }
theorem part_zero (a : AD) (g : Nat → Nat → Nat) : a.part g 0 = a := by
  unfold AD.part
  simp [keptFrom]
theorem part_len (a : AD) (g : Nat → Nat → Nat) (i : Nat) : (a.part g i).safe.length = a.safe.length := by
  simp [AD.part, keptFrom_len]; omega
theorem part_step (a : AD) (g : Nat → Nat → Nat) {i : Nat} (hi : i < a.safe.length) : a.part g (i + 1) = keepA (a.part g i) i (if a.pend i = [] then 0 else g (cnt a.pend 0 i) (a.pend i).length) := by
  have hpi : (a.part g i).pend i = a.pend i := by simp [AD.part]
  have hpend : (fun j => if j < i + 1 then [] else a.pend j) = fun j => if j = i then ([] : List ByteArray) else if j < i then [] else a.pend j := by
    funext j
    by_cases h1 : j = i
    · subst h1; simp
    · by_cases h2 : j < i
      · rw [if_pos (by omega), if_neg h1, if_pos h2]
      · rw [if_neg (by omega), if_neg h1, if_neg h2]
  have htake : a.safe.take (i + 1) = a.safe.take i ++ [a.safe[i]] := by rw [List.take_add_one, List.getElem?_eq_getElem hi]; rfl
  have hdrop : a.safe.drop i = a.safe[i] :: a.safe.drop (i + 1) := by rw [List.drop_eq_getElem_cons hi]
  have hlt : (a.safe.take i).length = i := by rw [List.length_take]; omega
  have hkl : (keptFrom g a.pend 0 0 (a.safe.take i)).length = i := by rw [keptFrom_len, hlt]
  have hsafe : keptFrom g a.pend 0 0 (a.safe.take (i + 1)) ++ a.safe.drop (i + 1) = if 0 < (if a.pend i = [] then 0 else g (cnt a.pend 0 i) (a.pend i).length) then (keptFrom g a.pend 0 0 (a.safe.take i) ++ a.safe.drop i).set i ((a.pend i).getD ((if a.pend i = [] then 0 else g (cnt a.pend 0 i) (a.pend i).length) - 1) noB) else keptFrom g a.pend 0 0 (a.safe.take i) ++ a.safe.drop i := by
    rw [htake, keptFrom_snoc, hlt, Nat.zero_add, Nat.zero_add, hdrop, List.append_assoc]
    by_cases hp : a.pend i = []
    · simp only [hp, if_true, Nat.lt_irrefl, if_false]; rfl
    · simp only [hp, if_false]
      split
      · rw [List.set_append_right _ _ (by omega), hkl, Nat.sub_self, List.set_cons_zero]; rfl
      · rfl
  unfold keepA
  rw [hpi]
  show AD.mk _ _ _ _ _ = AD.mk _ _ _ _ _
  rw [hpend, hsafe]
  rfl
theorem part_skip (a : AD) (g : Nat → Nat → Nat) {i : Nat} (hi : i < a.safe.length) (hp : a.pend i = []) : a.part g (i + 1) = a.part g i := by
  rw [part_step a g hi, if_pos hp]
  unfold keepA
  have : (fun j => if j = i then [] else (a.part g i).pend j) = (a.part g i).pend := by
    funext j
    by_cases h1 : j = i
    · subst h1; simp [AD.part, hp]
    · rw [if_neg h1]
  rw [this]
  simp
theorem part_end {R : RL} {a : AD} {g : Nat → Nat → Nat} (h : RAbs R (a.part g a.safe.length)) : RAbs R (a.settle g) := by
  have hs : (a.part g a.safe.length).safe = keptFrom g a.pend 0 0 a.safe := by simp [AD.part]
  have hl : (a.settle g).safe.length = a.safe.length := by show (keptFrom g a.pend 0 0 a.safe).length = _; rw [keptFrom_len]
  have hw := h.wl
  have hpl := h.pl
  rw [part_len] at hw hpl
  refine ⟨by rw [hl, ← part_len a g a.safe.length]; exact h.n1, by rw [h.safe, hs]; rfl, by rw [hl]; exact hw, fun j e he => ?_, by rw [hl]; exact hpl, h.sp, h.dead, h.power⟩
  have hj := (List.getElem?_eq_some_iff.1 he).1
  rw [h.ws j e he]
  show (if j < a.safe.length then [] else a.pend j) = []
  rw [if_pos (by omega)]
theorem part_few {a : AD} {N : Nat} (h : a.Few N) (g : Nat → Nat → Nat) (i : Nat) : (a.part g i).Few N := by
  intro j
  show (if j < i then [] else a.pend j).length ≤ N
  split
  · exact Nat.zero_le _
  · exact h j
theorem push_t {P : Program} {F : List Nat} {w0 w : World} {Γ Δ : List A} {t e : TypeId} {i : TypeInfo} {z v : Value} (ht : P.underlying t = some (.slice e)) (hi : P.info? e = some i) (hz : i.zero = some z) (hsize : i.size = 1) (hzs : z.cells.size = 1) (hby : decide (i.bytes ≤ 1000000) = true)
    {g : Option Nat} {n cap : Nat} {xs : List Value} (hT : T F w0 w Γ) (hk : Pick (rowP e 1 g n cap xs) Γ Δ) (hv : v.oneCell' = true) (hn : n ≤ 1000000) {K : Option Addr → Nat → Nat → World → Prop} (hK : ∀ g' cap' w', T F w0 w' (rowP e 1 g' (n + 1) cap' (xs ++ [v]) :: Δ) → K (ptr g') (n + 1) cap' w') :
    Alloc #[v] e w fun k w1 => ∃ (p : Option Addr) (l c : Nat), ∃ w2, (builtin .append #[t, t] t #[false, false] #[.slice (ptr g) n cap, .slice (some ⟨k, 0, none⟩) 1 1]).run P w1 = .ok (.value (.slice p l c)) w2 ∧ K p l c w2 := by
  refine Alloc.t hT fun k w1 hT1 => ?_
  have hby' : i.bytes ≤ 1000000 := of_decide_eq_true hby
  have hmul : (n + 1) * i.bytes ≤ 1000001 * 1000000 := Nat.mul_le_mul (by omega) hby'
  obtain ⟨g', cap', w', hr, hT'⟩ := append_t (ty := t) #[false, false] ht hi hz hsize hzs hT1 (.tail hk) (a := ⟨k, 0, none⟩) (m := 1) (c := 1) (news := [v]) rfl (fun j u hu => by
      rw [addr_add, Nat.zero_add]
      exact hT1.ld (by repeat (first | exact List.Mem.head _ | refine List.Mem.tail _ ?_)) (by simpa using hu)) (fun u hu => by obtain rfl := List.mem_singleton.1 hu; exact hv) (by simp only [maxLen]; omega) (by omega)
  exact ⟨_, _, _, w', hr, hK g' cap' w' (T.drop (hT'.swap (.swap _ _ _)))⟩
theorem perm4b {α : Type} (d c b a : α) (l : List α) : (d :: c :: b :: a :: l).Perm (a :: b :: c :: d :: l) := by
  have h1 := List.reverse_perm [a, b, c, d]
  exact h1.append_right l
end Go.Proofs.Ytbecjmfcppginaa
end
section
/-! A drive that holds texts, all of them safe; what is done beside a drive. -/
namespace Go.Proofs.Ytbecjmfcppginaa
open Go.Sh Go.RowKit
set_option linter.unusedVariables false
set_option linter.unusedSimpArgs false
set_option maxRecDepth 20000
set_option maxHeartbeats 1000000
theorem read_on {a : AD} {n : Nat} (h : a.On n) {i : Int} (hi : 0 ≤ i ∧ i < (n : Int)) : a.read i = if a.spoilt i.toNat then (noB, 41) else (a.top i.toNat, 0) := AD.read_of (h.may hi)
/-- nothing is pending, nothing is spoilt -/
structure AD.Hold (a : AD) (n : Nat) (f : Nat → ByteArray) : Prop where
  on : a.On n
  pend : ∀ j, a.pend j = []
  sp : ∀ j, a.spoilt j = false
  safe : ∀ j, j < n → a.safe.getD j noB = f j
theorem AD.Hold.few {a : AD} {n : Nat} {f : Nat → ByteArray} (h : a.Hold n f) (N : Nat) : a.Few N := fun j => by rw [h.pend]; exact Nat.zero_le _
theorem AD.Hold.read {a : AD} {n : Nat} {f : Nat → ByteArray} (h : a.Hold n f) {i : Nat} (hi : i < n) : a.read (i : Int) = (f i, 0) := by
  rw [read_on h.on (by omega), Int.toNat_natCast, if_neg (by rw [h.sp]; decide), AD.top_none (h.pend i), h.safe i hi]
theorem hold_new (n : Nat) : (AD.new n).Hold n fun _ => zeroSec := ⟨AD.On.new n, fun _ => rfl, fun _ => rfl, fun j hj => by
  show (List.replicate n zeroSec).getD j noB = zeroSec
  simp [List.getD, hj]⟩
theorem AD.Hold.change {a : AD} {n : Nat} {f : Nat → ByteArray} (h : a.Hold n f) {i : Nat} (hi : i < n) {s : ByteArray} (hs : s.size = 64) : (a.change (i : Int) s).Hold n fun j => if j = i then s else f j := by
  have hp := h.on.put (i := (i : Int)) (by omega) hs
  refine ⟨h.on.change _ _, fun j => ?_, fun j => ?_, fun j hj => ?_⟩ <;> rw [AD.change_of hp]
  · show (if j = (i : Int).toNat then [] else a.pend j) = []
    rw [h.pend]; split <;> rfl
  · exact h.sp j
  · show (a.safe.set (i : Int).toNat s).getD j noB = _
    have hl := h.on.len
    rw [Int.toNat_natCast, List.getD_eq_getElem?_getD, List.getElem?_set]
    by_cases e : i = j
    · subst e; rw [if_pos rfl, if_pos (by omega), if_pos rfl]; rfl
    · rw [if_neg e, if_neg (fun e' => e e'.symm), ← h.safe j hj, List.getD_eq_getElem?_getD]
theorem AD.Hold.few_write {a : AD} {n : Nat} {f : Nat → ByteArray} (h : a.Hold n f) (i : Int) (s : ByteArray) : (a.write i s).Few 1000000 := ((h.few 0).write i s).mono (by decide)
theorem AD.Hold.save {a : AD} {n : Nat} {f : Nat → ByteArray} (h : a.Hold n f) {i : Nat} (hi : i < n) {s : ByteArray} (hs : s.size = 64) : ((a.write (i : Int) s).flush).Hold n fun j => if j = i then s else f j := by
  have hp := h.on.put (i := (i : Int)) (by omega) hs
  have how := h.on.write (i : Int) s
  refine ⟨how.flush, fun j => ?_, fun j => ?_, fun j hj => ?_⟩ <;> rw [AD.flush_of how.flush1]
  · rfl
  · show (a.write (i : Int) s).spoilt j = false
    rw [AD.write_of hp]
    show (if j = (i : Int).toNat then false else a.spoilt j) = false
    rw [h.sp]; split <;> rfl
  · show (keptFrom (fun _ m => m) (a.write (i : Int) s).pend 0 0 (a.write (i : Int) s).safe).getD j noB = _
    obtain ⟨k', hk⟩ := keptFrom_get (fun _ m => m) (a.write (i : Int) s).pend noB (a.write (i : Int) s).safe 0 0 j (by rw [how.len]; exact hj)
    rw [hk, Nat.zero_add, AD.write_of hp]
    simp only [Int.toNat_natCast]
    by_cases e : j = i
    · subst e
      simp [h.pend]
    · rw [if_neg e, if_pos (h.pend j), if_neg e]
      exact h.safe j hj
theorem AD.Hold.crash {a : AD} {n : Nat} {f : Nat → ByteArray} (h : a.Hold n f) {i : Nat} (hi : i < n) {s : ByteArray} (hs : s.size = 64) (keep : List UInt8) : ∃ q : Bool, ((a.write (i : Int) s).crash keep).Hold n fun j => if j = i ∧ q = true then s else f j := by
  have hp := h.on.put (i := (i : Int)) (by omega) hs
  have how := h.on.write (i : Int) s
  have hsafe : (a.write (i : Int) s).safe = a.safe := by rw [AD.write_of hp]
  have hpend : ∀ j, (a.write (i : Int) s).pend j = if j = i then [s] else [] := fun j => by
    rw [AD.write_of hp]
    show (if j = (i : Int).toNat then a.pend j ++ [s] else a.pend j) = _
    rw [h.pend, Int.toNat_natCast]; rfl
  have hsp : ∀ j, (a.write (i : Int) s).spoilt j = false := fun j => by
    rw [AD.write_of hp]
    show (if j = (i : Int).toNat then false else a.spoilt j) = false
    rw [h.sp]; split <;> rfl
  obtain ⟨k0, hk0⟩ := keptFrom_get (keepG keep) (a.write (i : Int) s).pend noB (a.write (i : Int) s).safe 0 0 i (by rw [how.len]; exact hi)
  refine ⟨decide (0 < keepG keep k0 1), ⟨how.dead, rfl, ?_⟩, fun j => rfl, hsp, fun j hj => ?_⟩
  · show (keptFrom (keepG keep) (a.write (i : Int) s).pend 0 0 (a.write (i : Int) s).safe).length = n
    rw [keptFrom_len, how.len]
  · show (keptFrom (keepG keep) (a.write (i : Int) s).pend 0 0 (a.write (i : Int) s).safe).getD j noB = _
    by_cases e : j = i
    · subst e
      rw [hk0, Nat.zero_add, hpend, if_pos rfl, if_neg (by simp)]
      have hle := keepG_le keep k0 1
      by_cases hg : 0 < keepG keep k0 1
      · have h1 : keepG keep k0 1 = 1 := by omega
        simp [h1]
      · simp only [List.length_singleton, if_neg hg]
        rw [if_neg (by simp [hg]), hsafe, h.safe j hj]
    · obtain ⟨k', hk⟩ := keptFrom_get (keepG keep) (a.write (i : Int) s).pend noB (a.write (i : Int) s).safe 0 0 j (by rw [how.len]; exact hj)
      rw [hk, Nat.zero_add, hpend, if_neg e, if_pos rfl, hsafe, h.safe j hj, if_neg (fun h => e h.1)]
theorem Dr.alloc {p : Nat} {a : AD} {F : List Nat} {w0 w : World} {X : List A} (h : Dr p a F w0 w X) {c : Array Value} {t : TypeId} {K : Nat → World → Prop} (hK : ∀ b w', Dr p a F w0 w' (blk b c t :: X) → K b w') : Alloc c t w K := by
  obtain ⟨D, h1, h2, hT⟩ := h
  refine Alloc.t hT fun b w' hT' => hK b w' ⟨D, h1, h2, ?_⟩
  first
    | exact hT'
    | exact hT'.swap List.perm_middle.symm
theorem drew_dr {p : Nat} {a : AD} {F : List Nat} {w0 w : World} {X : List A} (h : Dr p a F w0 w X) : Dr p a F w0 w.drew X := by
  obtain ⟨D, h1, h2, hT⟩ := h
  exact ⟨D, h1, h2, hT.drew⟩
section
variable {p : Nat} {a : AD} {F : List Nat} {w0 w : World} {X : List A}
theorem Dr.perm {X' : List A} (h : Dr p a F w0 w X) (hp : X.Perm X') : Dr p a F w0 w X' := by
  obtain ⟨D, h1, h2, hT⟩ := h
  exact ⟨D, h1, h2, hT.swap (hp.append_right _)⟩
theorem Dr.dropX {y : A} (h : Dr p a F w0 w (y :: X)) : Dr p a F w0 w X := by
  obtain ⟨D, h1, h2, hT⟩ := h
  exact ⟨D, h1, h2, T.drop hT⟩
theorem Dr.only {y : A} : ∀ {X : List A}, Dr p a F w0 w (y :: X) → Dr p a F w0 w [y]
  | [], h => h
  | _ :: X, h => Dr.only (X := X) (h.perm (.swap _ _ _)).dropX
theorem Dr.st1 {k i : Nat} {c c' : Array Value} {t : TypeId} {v : Value} {K : World → Prop} (h : Dr p a F w0 w (blk k c t :: X)) (hi : i < c.size) (hc : c.setIfInBounds i v = c') (hv : scalar v = true) (hK : ∀ w', Dr p a F w0 w' (blk k c' t :: X) → K w') : St ⟨k, i, none⟩ v w K := by
  obtain ⟨D, h1, h2, hT⟩ := h
  exact St.t (Γ := blk k c t :: (X ++ drvL D)) hT .head hi hc hv fun w' hT' => hK w' ⟨D, h1, h2, hT'⟩
theorem Dr.into {y : A} {K : Prop} (h : Dr p a F w0 w (y :: X)) (hK : ∀ Γ, T F w0 w (y :: Γ) → (∀ w' y', T F w0 w' (y' :: Γ) → Dr p a F w0 w' (y' :: X)) → K) : K := by
  obtain ⟨D, h1, h2, hT⟩ := h
  exact hK (X ++ drvL D) hT fun w' y' hT' => ⟨D, h1, h2, hT'⟩
end
end Go.Proofs.Ytbecjmfcppginaa
end
section
/-! ring: steps on a drive. -/
namespace Go.Proofs.Ytbecjmfcppginaa
open Go.Sh Go.RowKit
set_option linter.unusedVariables false
set_option linter.unusedSimpArgs false
set_option maxRecDepth 20000
set_option maxHeartbeats 1000000
/-- a step: a sector is written, or the drive is flushed -/
abbrev Op : Type := Option (Int × ByteArray)
def runS : AD → List Op → AD × Int
  | a, [] => (a, 0)
  | a, some x :: l => if a.put x.1 x.2 ≠ 0 then (a.write x.1 x.2, a.put x.1 x.2) else runS (a.write x.1 x.2) l
  | a, none :: l => if a.flush1 ≠ 0 then (a.flush, a.flush1) else runS a.flush l
inductive Stp where
  | wr (i : Int) (s : ByteArray) (k3 k4 k5 : Nat)
  | fl
def Stp.op : Stp → Op
  | .wr i s _ _ _ => some (i, s)
  | .fl => none
def Stp.val (q : Nat) : Stp → Value
  | .wr _ _ k3 k4 k5 => .func (.func 45) #[] #[.pointer (some ⟨k3, 0, none⟩), .pointer (some ⟨k4, 0, none⟩), .pointer (some ⟨k5, 0, none⟩)]
  | .fl => .func (.func 19) #[.pointer (some ⟨q, 0, none⟩)] #[]
def Stp.own (q : Nat) : Stp → List A
  | .wr i s k3 k4 k5 => [blk k3 #[.pointer (some ⟨q, 0, none⟩)] 26, blk k4 #[.int .i64 i] 3, blk k5 #[.string s] 9]
  | .fl => []
section
variable {q : Nat} {a : AD} {F : List Nat} {w0 w : World} {X : List A}
theorem steps_spec {l : List Stp} {N : Nat} {g : Option Nat} {cap : Nat} (h : Dr q a F w0 w X) (hm : rowP 48 1 g l.length cap (l.map (Stp.val q)) ∈ X) (ho : ∀ s ∈ l, ∀ x ∈ s.own q, x ∈ X) (hF : a.Few N) (hN : N + l.length ≤ 1000000) :
    Calls Try.prog 27 #[.slice (ptr g) l.length cap] w fun e w' => e = .returned (.int .i64 (runS a (l.map Stp.op)).2) ∧ Dr q (runS a (l.map Stp.op)).1 F w0 w' X := by
  refine (ring_steps_calls (R := fun v w' => v = .int .i64 (runS a (l.map Stp.op)).2 ∧ Dr q (runS a (l.map Stp.op)).1 F w0 w' X) ?_).mono fun e w' ⟨v, he, hv, h⟩ => ⟨by rw [he, hv], h⟩
  unfold ring_steps
  refine ⟨fun vs w' => ∃ (i : Nat) (a' : AD), vs = [.int .i64 (i : Int)] ∧ i ≤ l.length ∧ Dr q a' F w0 w' X ∧ a'.Few (N + i) ∧ runS a (l.map Stp.op) = runS a' ((l.drop i).map Stp.op), fun vs _ => match vs with | [.int _ i] => (l.length - i).toNat | _ => 0, ⟨0, a, rfl, by omega, h, hF, rfl⟩, ?_⟩
  rintro vs w1 ⟨i, a', rfl, hi, h1, hF1, hr⟩
  refine ⟨_, rfl, dec_t fun hlt => ?_, dec_f fun hge => ?_⟩
  · have hlt : i < l.length := by omega
    obtain ⟨b, rfl, hc⟩ := T.row1 (i := i) (v := (l[i]).val q) h1.under hm (by rw [List.getElem?_map, List.getElem?_eq_getElem hlt]; rfl)
    have hmem : l[i] ∈ l := List.getElem_mem hlt
    rw [List.drop_eq_getElem_cons hlt, List.map_cons] at hr
    refine ⟨_, rfl, by omega, by omega, _, by rw [Int.toNat_natCast]; exact hc, ?_⟩
    have ho1 := ho _ hmem
    have hnx : IntKind.i64.wrap ((i : Int) + 1) = ((i + 1 : Nat) : Int) := by rw [wrap64 _ (by omega) (by omega)]; omega
    have hms : ((l.length : Int) - IntKind.i64.wrap ((i : Int) + 1)).toNat < ((l.length : Int) - (i : Int)).toNat := by rw [wrap64 _ (by omega) (by omega)]; omega
    generalize l[i] = x at hr ho1
    cases x with
    | wr j s k3 k4 k5 =>
      refine CallF.func (by kernel_rfl) ((ring_written_1_calls (k0 := ⟨k3, 0, none⟩) (k1 := ⟨k4, 0, none⟩) (k2 := ⟨k5, 0, none⟩) (R := fun v w2 => v = .int .i64 (a'.put j s) ∧ Dr q (a'.write j s) F w0 w2 X) ?_).mono fun e w2 ⟨v, he, hv, h2⟩ => ⟨a'.put j s, he.trans (by rw [hv]), bne_t fun hne => ?_, bne_f fun heq => ?_⟩)
      · unfold ring_written_1
        refine ⟨_, h1.under.ld (b := k3) (ho1 _ List.mem_cons_self) rfl, _, h1.under.ld (b := k4) (ho1 _ (List.mem_cons_of_mem _ List.mem_cons_self)) rfl, _, h1.under.ld (b := k5) (ho1 _ (List.mem_cons_of_mem _ (List.mem_cons_of_mem _ List.mem_cons_self))) rfl, ?_⟩
        exact write_u h1 (hF1.mono (by omega)) rfl fun w' h' => ⟨_, rfl, rfl, h'⟩
      · have hr : runS a (l.map Stp.op) = (a'.write j s, a'.put j s) := hr.trans (if_pos hne)
        rw [hr]; exact ⟨rfl, h2⟩
      · have hr : runS a (l.map Stp.op) = runS (a'.write j s) ((l.drop (i + 1)).map Stp.op) := hr.trans (if_neg (fun hn => hn heq))
        exact ⟨⟨i + 1, a'.write j s, by rw [hnx], by omega, h2, (hF1.write j s).mono (by omega), hr⟩, hms⟩
    | fl =>
      refine CallF.func (by kernel_rfl) (flush_u h1 (hF1.mono (by omega)) rfl fun w2 h2 => ⟨_, rfl, bne_t fun hne => ?_, bne_f fun heq => ?_⟩)
      · have hr : runS a (l.map Stp.op) = (a'.flush, a'.flush1) := hr.trans (if_pos hne)
        rw [hr]; exact ⟨rfl, h2⟩
      · have hr : runS a (l.map Stp.op) = runS a'.flush ((l.drop (i + 1)).map Stp.op) := hr.trans (if_neg (fun hn => hn heq))
        exact ⟨⟨i + 1, a'.flush, by rw [hnx], by omega, h2, hF1.flush.mono (by omega), hr⟩, hms⟩
  · have hie : i = l.length := by omega
    subst hie
    rw [List.drop_length] at hr
    rw [hr]; exact ⟨rfl, h1⟩
theorem written_spec (h : Dr q a F w0 w X) (i : Int) (s : ByteArray) : Calls Try.prog 25 #[.pointer (some ⟨q, 0, none⟩), .int .i64 i, .string s] w fun e w' => ∃ k3 k4 k5, e = .returned ((Stp.wr i s k3 k4 k5).val q) ∧ Dr q a F w0 w' ((Stp.wr i s k3 k4 k5).own q ++ X) := by
  refine (ring_written_calls (R := fun v w' => ∃ k3 k4 k5, v = (Stp.wr i s k3 k4 k5).val q ∧ Dr q a F w0 w' ((Stp.wr i s k3 k4 k5).own q ++ X)) ?_).mono fun e w' ⟨v, he, k3, k4, k5, hv, h⟩ => ⟨k3, k4, k5, by rw [he, hv], h⟩
  unfold ring_written
  refine Dr.alloc h fun k3 w1 h1 => Dr.alloc h1 fun k4 w2 h2 => Dr.alloc h2 fun k5 w3 h3 => ⟨k3, k4, k5, rfl, Dr.perm h3 ?_⟩
  exact (List.Perm.swap _ _ _).trans ((List.Perm.cons _ (List.Perm.swap _ _ _)).trans ((List.Perm.swap _ _ _)))
end
/-- how many slots a drive of some sectors has -/
def slotsN (n : Int) : Int := (max (n - 4) 0) / 41
theorem slots_spec (n : Int) (h0 : -9223372036854775804 ≤ n) (h1 : n ≤ 9223372036854775807) (w : World) : Ret Try.prog 16 #[.int .i64 n] w (.int .i64 (slotsN n)) := by
  refine ret_of (ring_Slots_calls ?_)
  unfold ring_Slots
  rw [wrap64 _ (by omega) (by omega)]
  refine ⟨_, w, max_run _ _ _ _ _ _, ?_, Ext.refl w⟩
  unfold slotsN
  have e : (if n - 4 < 0 then (0 : Int) else n - 4) = max (n - 4) 0 := by split <;> omega
  rw [e, Int.tdiv_eq_ediv_of_nonneg (by omega), wrap64 _ (by omega) (by omega)]
def magM : List UInt8 := [82, 86, 84, 77]
def markB (n : Nat) : List UInt8 := sealB (magM ++ leB n 8) 64
theorem markB_len (n : Nat) : (markB n).length = 64 := sealB_len (by rw [List.length_append, leB_len]; decide)
theorem rwid8 : Wid [8] := ⟨by decide, by decide⟩
theorem mark_spec {n : Nat} (hn : n < 2 ^ 64) (w : World) : Ret Try.prog 28 #[.int .u64 (n : Int)] w (.string (strB (markB n))) := by
  refine ret_of (ring_mark_calls ?_)
  unfold ring_mark
  refine Alloc.t (T.nil w) fun k9 w1 h1 => ?_
  have h1 : T [] w w1 [rowP 34 1 (some k9) 1 1 (u64s [n])] := blk_row h1 rfl rfl (by decide)
  refine Alloc.t h1 fun k10 w2 h2 => ?_
  have h2 : T [] w w2 (rowP 3 1 (some k10) 1 1 (ints [8]) :: [rowP 34 1 (some k9) 1 1 (u64s [n])]) := blk_row h2 rfl rfl (by decide)
  have hf : ∀ (i m x : Nat), [n][i]? = some m → [8][i]? = some x → m < 256 ^ x := fun i m x hm hx => by
    match i, hm, hx with
    | 0, hm, hx =>
      cases hm; cases hx
      have e : (256 : Nat) ^ 8 = 2 ^ 64 := by decide
      omega
    | i + 1, hm, _ => simp at hm
  refine (encode_spec (ns := [n]) (ws := [8]) rwid8 rfl hf h2 (g1 := some k9) (g2 := some k10) (n1 := 1) (n2 := 1) (c1 := 1) (c2 := 1) rfl rfl (List.mem_cons_of_mem _ List.mem_cons_self) List.mem_cons_self).mono fun e w3 ⟨he3, h3⟩ => ⟨_, _, he3, ?_⟩
  rw [show encP [n] [8] = leB n 8 by simp [encP]]
  have eM : (ByteArray.mk #[82, 86, 84, 77]) = strB magM := rfl
  have l8 := leB_len n 8
  have hl : (magM ++ leB n 8).length = 12 := by rw [List.length_append, l8]; rfl
  rw [eM, strB_append]
  refine ⟨by rw [strB_size, strB_size, l8]; decide, ?_⟩
  exact (seal_spec (strB (magM ++ leB n 8)) 64 (by rw [strB_size, hl]; omega) (by omega) w3).mono fun e w5 ⟨he5, hx5⟩ => ⟨_, _, he5, rfl, h3.chg.ext.trans hx5⟩
end Go.Proofs.Ytbecjmfcppginaa
end
section
/-! What is owned, of a kind: lists of parts that something says. -/
namespace Go.Sh
open Go.RowKit
set_option linter.unusedVariables false
/-- a kind of parts -/
abbrev Kd := List A → Prop
def Ow (h : Kd) (F : List Nat) (w0 w : World) (X : List A) : Prop := ∃ Y, h Y ∧ T F w0 w (X ++ Y)
def star (h g : Kd) : Kd := fun Y => ∃ Y1 Y2, h Y1 ∧ g Y2 ∧ Y = Y1 ++ Y2
def noK : Kd := fun Y => Y = []
section
variable {h g : Kd} {F : List Nat} {w0 w : World} {X : List A}
theorem Ow.mk' {Y : List A} (hY : h Y) (hT : T F w0 w (X ++ Y)) : Ow h F w0 w X := ⟨Y, hY, hT⟩
theorem Ow.quiet {w' : World} (H : Ow h F w0 w X) (he : Ext w w') : Ow h F w0 w' X := by
  obtain ⟨Y, hY, hT⟩ := H
  exact ⟨Y, hY, hT.quiet he⟩
theorem Ow.drew (H : Ow h F w0 w X) : Ow h F w0 w.drew X := by
  obtain ⟨Y, hY, hT⟩ := H
  exact ⟨Y, hY, hT.drew⟩
theorem Ow.perm {X' : List A} (H : Ow h F w0 w X) (hp : X.Perm X') : Ow h F w0 w X' := by
  obtain ⟨Y, hY, hT⟩ := H
  exact ⟨Y, hY, hT.swap (hp.append_right _)⟩
theorem Ow.dropX {x : A} (H : Ow h F w0 w (x :: X)) : Ow h F w0 w X := by
  obtain ⟨Y, hY, hT⟩ := H
  exact ⟨Y, hY, T.drop hT⟩
theorem T.leave {Γ Δ : List A} (H : T F w0 w (Γ ++ Δ)) : T F w0 w Γ := by
  have H2 : T F w0 w (Δ ++ Γ) := H.swap List.perm_append_comm
  clear H
  induction Δ with
  | nil => exact H2
  | cons x Δ ih => exact ih (T.drop H2)
theorem Ow.under (H : Ow h F w0 w X) : T F w0 w X := by
  obtain ⟨Y, hY, hT⟩ := H
  exact T.leave hT
theorem Ow.leave {Z : List A} (H : Ow h F w0 w (X ++ Z)) : Ow h F w0 w X := by
  obtain ⟨Y, hY, hT⟩ := H
  have : T F w0 w ((X ++ Y) ++ Z) := hT.swap (by rw [List.append_assoc, List.append_assoc]; exact List.Perm.append_left _ List.perm_append_comm)
  exact ⟨Y, hY, T.leave this⟩
theorem Ow.ext (H : Ow h [] w0 w X) : Ext w0 w := H.under.chg.ext
theorem Ow.ld {b i : Nat} {c : Array Value} {t : TypeId} {v : Value} (H : Ow h F w0 w X) (hm : blk b c t ∈ X) (hv : c[i]? = some v) : w.cell? ⟨b, i, none⟩ = some v := H.under.ld hm hv
theorem Ow.of_T (H : T F w0 w X) : Ow noK F w0 w X := ⟨[], rfl, by rw [List.append_nil]; exact H⟩
theorem Ow.call {w' : World} {Γ Γ' : List A} (H : Ow h F w0 w (Γ ++ X)) (hc : T (feet Γ) w w' Γ') : Ow h F w0 w' (Γ' ++ X) := by
  obtain ⟨Y, hY, hT⟩ := H
  rw [List.append_assoc] at hT
  exact ⟨Y, hY, by rw [List.append_assoc]; exact T.call hT hc⟩
/-- a call that makes new parts alone -/
theorem Ow.new {w' : World} {Γ : List A} (H : Ow h F w0 w X) (hc : T [] w w' Γ) : Ow h F w0 w' (Γ ++ X) := Ow.call (Γ := []) H hc
theorem Ow.alloc {c : Array Value} {t : TypeId} {K : Nat → World → Prop} (H : Ow h F w0 w X) (hK : ∀ b w', Ow h F w0 w' (blk b c t :: X) → K b w') : Alloc c t w K := by
  obtain ⟨Y, hY, hT⟩ := H
  exact Alloc.t hT fun b w' h' => hK b w' ⟨Y, hY, h'⟩
theorem Turn.app {x y : A} {Γ Γ' : List A} (hu : Turn x y Γ Γ') (Y : List A) : Turn x y (Γ ++ Y) (Γ' ++ Y) := by
  induction hu with
  | head => exact .head
  | tail _ ih => exact .tail ih
theorem Pick.app {x : A} {Γ Γ' : List A} (hu : Pick x Γ Γ') (Y : List A) : Pick x (Γ ++ Y) (Γ' ++ Y) := by
  induction hu with
  | head => exact .head
  | tail _ ih => exact .tail ih
theorem Ow.st {X' : List A} {k i : Nat} {c c' : Array Value} {t : TypeId} {v : Value} {K : World → Prop} (H : Ow h F w0 w X) (hu : Turn (blk k c t) (blk k c' t) X X') (hi : i < c.size) (hc : c.setIfInBounds i v = c') (hv : scalar v = true) (hK : ∀ w', Ow h F w0 w' X' → K w') : St ⟨k, i, none⟩ v w K := by
  obtain ⟨Y, hY, hT⟩ := H
  exact St.t hT (hu.app Y) hi hc hv fun w' hT' => hK w' ⟨Y, hY, hT'⟩
/-- what is done to the parts at hand -/
theorem Ow.into {K : Prop} (H : Ow h F w0 w X) (hK : ∀ Y, T F w0 w (X ++ Y) → (∀ w' X', T F w0 w' (X' ++ Y) → Ow h F w0 w' X') → K) : K := by
  obtain ⟨Y, hY, hT⟩ := H
  exact hK Y hT fun w' X' hT' => ⟨Y, hY, hT'⟩
theorem Ow.mono (hi : ∀ Y, h Y → g Y) (H : Ow h F w0 w X) : Ow g F w0 w X := by
  obtain ⟨Y, hY, hT⟩ := H
  exact ⟨Y, hi Y hY, hT⟩
/-- the second kind is lent -/
theorem Ow.lend (H : Ow (star h g) F w0 w X) : ∃ Z, g Z ∧ Ow h F w0 w (X ++ Z) ∧ ∀ {h' : Kd} {F' : List Nat} {w0' w' : World} {X' : List A}, Ow h' F' w0' w' (X' ++ Z) → Ow (star h' g) F' w0' w' X' := by
  obtain ⟨Y, ⟨Y1, Y2, h1, h2, rfl⟩, hT⟩ := H
  refine ⟨Y2, h2, ⟨Y1, h1, hT.swap ?_⟩, fun {h' F' w0' w' X'} H' => ?_⟩
  · rw [List.append_assoc]; exact List.Perm.append_left _ List.perm_append_comm
  · obtain ⟨Y1', h1', hT'⟩ := H'
    exact ⟨_, ⟨Y1', Y2, h1', h2, rfl⟩, hT'.swap (by rw [List.append_assoc]; exact List.Perm.append_left _ List.perm_append_comm)⟩
theorem Ow.flip (H : Ow (star h g) F w0 w X) : Ow (star g h) F w0 w X := by
  obtain ⟨Y, ⟨Y1, Y2, h1, h2, rfl⟩, hT⟩ := H
  exact ⟨_, ⟨Y2, Y1, h2, h1, rfl⟩, hT.swap (List.Perm.append_left _ List.perm_append_comm)⟩
theorem Ow.join {Z : List A} (hg : g Z) (H : Ow h F w0 w (X ++ Z)) : Ow (star h g) F w0 w X := by
  obtain ⟨Y1, h1, hT⟩ := H
  exact ⟨_, ⟨Y1, Z, h1, hg, rfl⟩, hT.swap (by rw [List.append_assoc]; exact List.Perm.append_left _ List.perm_append_comm)⟩
theorem Ow.fst (H : Ow (star h g) F w0 w X) : Ow h F w0 w X := by
  obtain ⟨Z, _, H1, _⟩ := H.lend
  exact H1.leave
end
/-- one thing of a kind for each of a list -/
def allK {α : Type} (f : α → Kd) : List α → Kd
  | [] => noK
  | x :: l => star (f x) (allK f l)
section
variable {α : Type} {f : α → Kd} {F : List Nat} {w0 w : World} {X : List A}
theorem allK_snoc {l : List α} {x : α} {Y Z : List A} (hY : allK f l Y) (hZ : f x Z) : ∃ Y', allK f (l ++ [x]) Y' ∧ (Y ++ Z).Perm Y' := by
  induction l generalizing Y with
  | nil =>
    obtain rfl : Y = [] := hY
    exact ⟨Z ++ [], ⟨Z, [], hZ, rfl, rfl⟩, by simp⟩
  | cons y l ih =>
    obtain ⟨Y1, Y2, h1, h2, rfl⟩ := hY
    obtain ⟨Y', h3, h4⟩ := ih h2
    exact ⟨Y1 ++ Y', ⟨Y1, Y', h1, h3, rfl⟩, by rw [List.append_assoc]; exact List.Perm.append_left _ h4⟩
theorem allK_at {l : List α} {k : Nat} {x : α} (hk : l[k]? = some x) {Y : List A} (hY : allK f l Y) : ∃ Y1 Z, f x Y1 ∧ Y.Perm (Y1 ++ Z) ∧ ∀ x' Y1', f x' Y1' → ∃ Y', allK f (l.set k x') Y' ∧ (Y1' ++ Z).Perm Y' := by
  induction l generalizing k Y with
  | nil => simp at hk
  | cons y l ih =>
    obtain ⟨Y1, Y2, h1, h2, rfl⟩ := hY
    cases k with
    | zero =>
      obtain rfl : y = x := by simpa using hk
      exact ⟨Y1, Y2, h1, .refl _, fun x' Y1' hx' => ⟨Y1' ++ Y2, ⟨Y1', Y2, hx', h2, rfl⟩, .refl _⟩⟩
    | succ k =>
      obtain ⟨Z1, Z2, h3, h4, h5⟩ := ih (by simpa using hk) h2
      have sw : ∀ a b c : List A, (a ++ (b ++ c)).Perm (b ++ (a ++ c)) := fun a b c => by
        rw [← List.append_assoc, ← List.append_assoc]; exact List.perm_append_comm.append_right _
      refine ⟨Z1, Y1 ++ Z2, h3, (List.Perm.append_left _ h4).trans (sw _ _ _), fun x' Y1' hx' => ?_⟩
      obtain ⟨Y', h6, h7⟩ := h5 x' Y1' hx'
      exact ⟨Y1 ++ Y', ⟨Y1, Y', h1, h6, rfl⟩, (sw _ _ _).trans (List.Perm.append_left _ h7)⟩
/-- one of them is lent -/
theorem Ow.at {l : List α} {k : Nat} {x : α} (hk : l[k]? = some x) (H : Ow (allK f l) F w0 w X) : ∃ Z, Ow (f x) F w0 w (X ++ Z) ∧ ∀ {x' : α} {F' : List Nat} {w0' w' : World} {X' : List A}, Ow (f x') F' w0' w' (X' ++ Z) → Ow (allK f (l.set k x')) F' w0' w' X' := by
  obtain ⟨Y, hY, hT⟩ := H
  obtain ⟨Y1, Z, h1, hp, hb⟩ := allK_at hk hY
  have sw : ∀ a b c : List A, ((a ++ b) ++ c).Perm (a ++ (c ++ b)) := fun a b c => by rw [List.append_assoc]; exact List.Perm.append_left _ List.perm_append_comm
  refine ⟨Z, ⟨Y1, h1, hT.swap ((List.Perm.append_left _ hp).trans ((sw _ _ _).symm))⟩, fun {x' F' w0' w' X'} H' => ?_⟩
  obtain ⟨Y1', h1', hT'⟩ := H'
  obtain ⟨Y', h2, h3⟩ := hb x' Y1' h1'
  exact ⟨Y', h2, hT'.swap ((sw _ _ _).trans (List.Perm.append_left _ h3))⟩
theorem Ow.snoc {l : List α} {x : α} (H : Ow (star (f x) (allK f l)) F w0 w X) : Ow (allK f (l ++ [x])) F w0 w X := by
  obtain ⟨Y, ⟨Y1, Y2, h1, h2, rfl⟩, hT⟩ := H
  obtain ⟨Y', h3, h4⟩ := allK_snoc h2 h1
  exact ⟨Y', h3, hT.swap (List.Perm.append_left _ (List.perm_append_comm.trans h4))⟩
theorem Ow.nil_all (H : T F w0 w X) : Ow (allK f []) F w0 w X := Ow.of_T H
end
section
variable {h h' : Kd} {F : List Nat} {w0 w W : World} {X X' : List A}
theorem Ow.putTop {b : Nat} {o o' : Obj} (H : Ow h F w0 w (ob b o :: X)) : Ow h F w0 (w.putObj b o') (ob b o' :: X) := by
  obtain ⟨Y, hY, hT⟩ := H
  exact ⟨Y, hY, T.putTop hT⟩
theorem Ow.got {b : Nat} {o : Obj} (H : Ow h F w0 w X) (hm : ob b o ∈ X) : w.heap[b]? = some o := H.under.got hm
theorem Ow.shut {d : Nat} {Q : World → Prop} (H : Ow h F w0 w (ob d (.deferred (some [])) :: X)) (hq : ∀ w', Ow h F w0 w' X → Q w') : w.heap[d]? = some (.deferred (some [])) ∧ Q (w.putObj d (.deferred none)) :=
  ⟨H.got List.mem_cons_self, hq _ H.putTop.dropX⟩
theorem RoundO.t {obf : LoopState → Option Code → Obj} {l : Nat} {Φ : Value → World → Prop} {body : (World → Prop) → (Nat → World → Prop) → (World → Prop) → World → Prop}
    (H : Ow h F w0 W (ob l (obf .ready none) :: X)) (hΦ : ∀ w', Ow h' F w0 w' (ob l (obf .ready none) :: X') → Φ (.bool true) w')
    (hb : ∀ K B R w1, Ow h F w0 w1 (ob l (obf .busy none) :: X) → (∀ w2, Ow h' F w0 w2 (ob l (obf .busy none) :: X') → K w2) → body K B R w1) : RoundP obf l Φ body W :=
  ⟨H.got List.mem_cons_self, hb _ _ _ _ H.putTop fun w2 h2 => ⟨h2.got List.mem_cons_self, hΦ _ h2.putTop⟩⟩
theorem RoundRO.t {obf : LoopState → Option Code → Obj} {l : Nat} {Φ : Value → World → Prop} {body : (World → Prop) → (Nat → World → Prop) → (World → Prop) → World → Prop}
    (H : Ow h F w0 W (ob l (obf .ready none) :: X)) (hΦ : ∀ w', Ow h' F w0 w' (ob l (obf .done (some .ret)) :: X') → Φ (.bool false) w')
    (hb : ∀ K B R w1, Ow h F w0 w1 (ob l (obf .busy none) :: X) → (∀ w2, Ow h' F w0 w2 (ob l (obf .busy none) :: X') → R w2) → body K B R w1) : RoundP obf l Φ body W :=
  ⟨H.got List.mem_cons_self, hb _ _ _ _ H.putTop fun w2 h2 => ⟨h2.got List.mem_cons_self, hΦ _ h2.putTop⟩⟩
end
/-- a range over a function whose rounds all go on: those of 'ok' are done -/
theorem RangeO.t {P : Program} {round : (LoopState → Option Code → Obj) → Nat → List Value → World → (Value → World → Prop) → Prop} {os : List (Nat × (Nat → World → Prop))} {K R : Nat → World → Prop} {f : FuncId} {first cap : Array Value} (hb : bodyB P f = true)
    {F : List Nat} {w0 w : World} {ok : Nat → Prop} {h : Nat → Kd} {X : Nat → List A} {N : Nat} {arg : Nat → List Value} (H : Ow (h 0) F w0 w (X 0))
    (hcallee : ∀ (yv : Value) (x y : A), (∀ k W, ok k → Ow (h k) F w0 W (x :: y :: X k) → CallF P yv (arg k) W fun e w' => e = .returned (.bool true) ∧ Ow (h (k + 1)) F w0 w' (x :: y :: X (k + 1))) →
      ∀ W, Ow (h 0) F w0 W (x :: y :: X 0) → Calls P f (first.toList ++ [yv] ++ cap.toList).toArray W fun e w' => (∃ v, e = .returned v) ∧ Ow (h N) F w0 w' (x :: y :: X N))
    (hround : ∀ (obf : LoopState → Option Code → Obj) (l d k : Nat) (W : World) (Φ : Value → World → Prop), ok k → Ow (h k) F w0 W (ob l (obf .ready none) :: ob d (.deferred (some [])) :: X k) →
      (∀ w', Ow (h (k + 1)) F w0 w' (ob l (obf .ready none) :: ob d (.deferred (some [])) :: X (k + 1)) → Φ (.bool true) w') → round obf l (arg k) W Φ)
    (hK : ∀ d w', Ow (h N) F w0 w' (ob d (.deferred (some [])) :: X N) → K d w') : RangeP P (.func (.func f) first cap) round os K R w := by
  intro obf hob hyield
  refine ⟨f, first, cap, rfl, hb, ?_⟩
  have hsz : (w.alloc (.deferred (some []))).heap.size = w.heap.size + 1 := by simp
  have h2 : Ow (h 0) F w0 ((w.alloc (.deferred (some []))).alloc (obf .ready none)) (ob (w.heap.size + 1) (obf .ready none) :: ob w.heap.size (.deferred (some [])) :: X 0) := by
    obtain ⟨Y, hY, hT⟩ := H
    have h2 := (hT.alloc (.deferred (some []))).alloc (obf .ready none)
    rw [hsz] at h2
    exact ⟨Y, hY, h2⟩
  refine (hcallee (.func (.yield (w.heap.size + 1)) #[] #[]) (ob (w.heap.size + 1) (obf .ready none)) (ob w.heap.size (.deferred (some []))) ?_ _ h2).mono ?_
  · intro k W hk h
    show CallV P (.func (.yield (w.heap.size + 1)) #[] #[]) (arg k) W _
    exact hyield _ _ _ (h.got List.mem_cons_self) (hround obf _ w.heap.size k W _ hk h fun w' h' => ⟨rfl, h'⟩)
  · rintro e w3 ⟨hv, h⟩
    exact ⟨hv, .ready, none, h.got List.mem_cons_self, by simp, .inl ⟨rfl, hK _ _ h.putTop.dropX⟩⟩
end Go.Sh
end
section
/-! ring: rows of steps. -/
namespace Go.Proofs.Ytbecjmfcppginaa
open Go.Sh Go.RowKit
set_option linter.unusedVariables false
set_option linter.unusedSimpArgs false
set_option maxRecDepth 20000
set_option maxHeartbeats 1000000
theorem lit1 (f : Fn) (a b : Array Value) : litCells Try.prog 64 1 [(0, .func f a b)] = some (#[.func f a b], 48) := by kernel_rfl
theorem lit2 (f f' : Fn) (a b a' b' : Array Value) : litCells Try.prog 64 2 [(0, .func f a b), (1, .func f' a' b')] = some (#[.func f a b, .func f' a' b'], 48) := by kernel_rfl
theorem lit3 (f f' f'' : Fn) (a b a' b' a'' b'' : Array Value) : litCells Try.prog 64 3 [(0, .func f a b), (1, .func f' a' b'), (2, .func f'' a'' b'')] = some (#[.func f a b, .func f' a' b', .func f'' a'' b''], 48) := by kernel_rfl
theorem Stp.one (q : Nat) (s : Stp) : (s.val q).oneCell' = true := by cases s <;> rfl
section
variable {q : Nat} {a : AD} {F : List Nat} {w0 w : World} {X Δ : List A}
theorem Dr.lit (h : Dr q a F w0 w X) {t : TypeId} {n : Nat} {parts : List (Nat × Value)} {c : Array Value} {el : TypeId} (hc : litCells Try.prog t n parts = some (c, el)) {K : Nat → World → Prop} (hK : ∀ k w', Dr q a F w0 w' (blk k c el :: X) → K k w') : LitS Try.prog t n parts w K := by
  unfold LitS
  rw [hc]
  exact Dr.alloc h hK
theorem Dr.back {Y : List A} (h : Dr q a F w0 w (Y ++ X)) : Dr q a F w0 w X := by
  induction Y with
  | nil => exact h
  | cons y Y ih => exact ih (Dr.dropX h)
/-- steps are put behind a row of steps -/
theorem Dr.app {g : Option Nat} {n cap k : Nat} {xs : List Value} {c : Array Value} (h : Dr q a F w0 w X) (hm : blk k c 48 ∈ X) (hk : Pick (rowP 48 1 g n cap xs) X Δ) (hv : ∀ u ∈ c.toList, u.oneCell' = true) (hn : n + c.size ≤ 1000000) :
    ∃ g' cap' w', (builtin .append #[64, 64] 64 #[false, false] #[.slice (ptr g) n cap, .slice (some ⟨k, 0, none⟩) c.size c.size]).run Try.prog w = .ok (.value (.slice (ptr g') (n + c.size) cap')) w' ∧ Dr q a F w0 w' (rowP 48 1 g' (n + c.size) cap' (xs ++ c.toList) :: Δ) := by
  obtain ⟨D, hD, hA, hT⟩ := h
  have hby : decide ((Try.t48).bytes ≤ 1000000) = true := by kernel_rfl
  have hby' := of_decide_eq_true hby
  have hmul : (n + c.size) * (Try.t48).bytes ≤ 1000000 * 1000000 := Nat.mul_le_mul (by omega) hby'
  obtain ⟨g', cap', w', hr, hT'⟩ := append_t (P := Try.prog) (t := 64) (ty := 64) (e := 48) (i := Try.t48) (z := .nilFunc) (size := 1) #[false, false] (by kernel_rfl) (by kernel_rfl) (by kernel_rfl) (by kernel_rfl) (by kernel_rfl) hT (hk.app (drvL D)) (a := ⟨k, 0, none⟩) (m := c.size) (c := c.size) (news := c.toList) (by rw [Array.length_toList, Nat.mul_one]) (fun j u hu => by
      rw [addr_add, Nat.zero_add]
      exact hT.ld (List.mem_append_left _ hm) (by simpa using hu)) hv (by simp only [maxLen]; omega) (by omega)
  exact ⟨g', cap', w', hr, D, hD, hA, hT'⟩
end
end Go.Proofs.Ytbecjmfcppginaa
end
section
/-! ring: Format. -/
namespace Go.Proofs.Ytbecjmfcppginaa
open Go.Sh Go.RowKit
set_option linter.unusedVariables false
set_option linter.unusedSimpArgs false
set_option maxRecDepth 20000
set_option maxHeartbeats 1000000
def zS : ByteArray := strB (List.replicate 64 0)
def slotOps (n : Nat) : List Op := (List.range n).map fun (i : Nat) => some (4 + 41 * (i : Int), zS)
def fmtOps (n : Nat) : List Op := slotOps n ++ [some (3, strB (markB 0)), none]
def formatF (a : AD) : AD × Int := if slotsN (a.safe.length : Int) = 0 then (a, 1) else runS a (fmtOps (slotsN (a.safe.length : Int)).toNat)
theorem slotOps_next (n : Nat) : slotOps (n + 1) = slotOps n ++ [some (4 + 41 * (n : Int), zS)] := by
  unfold slotOps; rw [List.range_succ, List.map_append]; rfl
section
variable {q : Nat} {a : AD} {F : List Nat} {w0 w : World} {X : List A}
theorem sectors_spec (h : Dr q a F w0 w X) : Ret Try.prog 24 #[.pointer (some ⟨q, 0, none⟩)] w (.int .i64 (a.safe.length : Int)) := by
  obtain ⟨D, rfl, hA, hT⟩ := h
  refine ret_of (drive_Drive_Sectors_calls ?_)
  unfold drive_Drive_Sectors
  refine ⟨_, rfl, _, _, _, hT.ld (b := D.p) (List.mem_append_right _ (List.mem_append_left _ List.mem_cons_self)) rfl, ?_, Ext.refl w⟩
  rw [hA.safe]
theorem Dr.nilRow (h : Dr q a F w0 w X) (e : TypeId) (size : Nat) : Dr q a F w0 w (rowP e size none 0 0 [] :: X) := by
  obtain ⟨D, hD, hA, hT⟩ := h
  exact ⟨D, hD, hA, T.nilRow hT _ _⟩
theorem format_spec (h : Dr q a F w0 w X) {N : Nat} (hF : a.Few N) (hN : N + 200 ≤ 1000000) (hlen : a.safe.length ≤ 4096) :
    Calls Try.prog 10 #[.pointer (some ⟨q, 0, none⟩)] w fun e w' => e = .returned (.int .i64 (formatF a).2) ∧ Dr q (formatF a).1 F w0 w' X := by
  refine (ring_Format_calls (R := fun v w' => v = .int .i64 (formatF a).2 ∧ Dr q (formatF a).1 F w0 w' X) ?_).mono fun e w' ⟨v, he, hv, h⟩ => ⟨by rw [he, hv], h⟩
  unfold ring_Format
  refine (sectors_spec h).mono fun e w1 ⟨he1, hx1⟩ => ⟨_, he1, ?_⟩
  refine (slots_spec (a.safe.length : Int) (by omega) (by omega) w1).mono fun e w2 ⟨he2, hx2⟩ => ⟨_, he2, ?_⟩
  have h2 := (h.quiet hx1).quiet hx2
  obtain ⟨n, hn⟩ : ∃ n : Nat, slotsN (a.safe.length : Int) = (n : Int) := ⟨(slotsN (a.safe.length : Int)).toNat, by unfold slotsN; omega⟩
  have hn99 : n ≤ 99 := by unfold slotsN at hn; omega
  have hf : formatF a = if (n : Int) = 0 then (a, 1) else runS a (fmtOps n) := by unfold formatF; rw [hn]; rfl
  rw [hn, hf]
  refine ⟨beq_t fun h0 => by rw [if_pos h0]; exact ⟨rfl, h2⟩, beq_f fun hne => ?_⟩
  rw [if_neg hne]
  refine ⟨fun vs w' => ∃ (i : Nat) (g : Option Nat) (cap : Nat) (l : List Stp) (Y : List A), vs = [.slice (ptr g) i cap, .int .i64 (i : Int)] ∧ i ≤ n ∧ l.length = i ∧ l.map Stp.op = slotOps i ∧ (∀ s ∈ l, ∀ x ∈ s.own q, x ∈ Y) ∧ Dr q a F w0 w' (rowP 48 1 g i cap (l.map (Stp.val q)) :: (Y ++ X)), fun vs _ => match vs with | [_, .int _ i] => (n - i).toNat | _ => 0, ⟨0, none, 0, [], [], rfl, by omega, rfl, rfl, fun s hs => by simp at hs, Dr.nilRow h2 _ _⟩, ?_⟩
  rintro vs w3 ⟨i, g, cap, l, Y, rfl, hi, hli, hlo, hown, h3⟩
  refine ⟨_, _, _, _, rfl, dec_t fun hlt => ?_, dec_f fun hge => ?_⟩
  · have hlt : i < n := by omega
    refine (repeat0_spec 64 (by decide) w3).mono fun e w4 ⟨he4, hx4⟩ => ⟨_, he4, ?_⟩
    have e41 : IntKind.i64.wrap (4 + IntKind.i64.wrap (41 * (i : Int))) = 4 + 41 * (i : Int) := by
      rw [wrap64 (41 * (i : Int)) (by omega) (by omega), wrap64 _ (by omega) (by omega)]
    rw [e41]
    refine (written_spec (h3.quiet hx4) (4 + 41 * (i : Int)) zS).mono fun e w5 ⟨k3, k4, k5, he5, h5⟩ => ⟨_, he5, ?_⟩
    refine Dr.lit h5 (lit1 _ _ _) fun k22 w6 h6 => ?_
    have h6 : Dr q a F w0 w6 (blk k22 #[(Stp.wr (4 + 41 * (i : Int)) zS k3 k4 k5).val q] 48 :: blk k3 #[.pointer (some ⟨q, 0, none⟩)] 26 :: blk k4 #[.int .i64 (4 + 41 * (i : Int))] 3 :: blk k5 #[.string zS] 9 :: rowP 48 1 g i cap (l.map (Stp.val q)) :: (Y ++ X)) := h6
    obtain ⟨g7, c7, w7, hr7, h7⟩ := Dr.app h6 List.mem_cons_self (.tail (.tail (.tail (.tail .head)))) (fun u hu => by
      have hu : u ∈ [(Stp.wr (4 + 41 * (i : Int)) zS k3 k4 k5).val q] := hu
      rw [List.mem_singleton.1 hu]; exact Stp.one _ _) (by show i + 1 ≤ 1000000; omega)
    have em : l.map (Stp.val q) ++ (#[(Stp.wr (4 + 41 * (i : Int)) zS k3 k4 k5).val q] : Array Value).toList = (l ++ [Stp.wr (4 + 41 * (i : Int)) zS k3 k4 k5]).map (Stp.val q) := by rw [List.map_append]; rfl
    rw [em] at h7
    refine ⟨_, _, _, w7, hr7, ⟨i + 1, g7, c7, l ++ [Stp.wr (4 + 41 * (i : Int)) zS k3 k4 k5], blk k22 #[(Stp.wr (4 + 41 * (i : Int)) zS k3 k4 k5).val q] 48 :: ((Stp.wr (4 + 41 * (i : Int)) zS k3 k4 k5).own q ++ Y), ?_, by omega, by rw [List.length_append, hli]; rfl, ?_, ?_, h7⟩, ?_⟩
    · rw [wrap64 _ (by omega) (by omega)]; rfl
    · rw [List.map_append, hlo, slotOps_next]; rfl
    · intro s hs x hx
      rcases List.mem_append.1 hs with hs | hs
      · exact List.mem_cons_of_mem _ (List.mem_append_right _ (hown s hs x hx))
      · rw [List.mem_singleton.1 hs] at hx
        exact List.mem_cons_of_mem _ (List.mem_append_left _ hx)
    · show ((n : Int) - IntKind.i64.wrap ((i : Int) + 1)).toNat < ((n : Int) - (i : Int)).toNat
      rw [wrap64 _ (by omega) (by omega)]; omega
  · have hie : i = n := by omega
    subst hie
    refine (mark_spec (n := 0) (by decide) w3).mono fun e w8 ⟨he8, hx8⟩ => ⟨_, he8, ?_⟩
    refine (written_spec (h3.quiet hx8) 3 (strB (markB 0))).mono fun e w9 ⟨k3, k4, k5, he9, h9⟩ => ⟨_, he9, ?_⟩
    refine Dr.lit h9 (lit2 _ _ _ _ _ _) fun k31 w10 h10 => ?_
    have h10 : Dr q a F w0 w10 (blk k31 #[(Stp.wr 3 (strB (markB 0)) k3 k4 k5).val q, Stp.fl.val q] 48 :: blk k3 #[.pointer (some ⟨q, 0, none⟩)] 26 :: blk k4 #[.int .i64 3] 3 :: blk k5 #[.string (strB (markB 0))] 9 :: rowP 48 1 g i cap (l.map (Stp.val q)) :: (Y ++ X)) := h10
    obtain ⟨g11, c11, w11, hr11, h11⟩ := Dr.app h10 List.mem_cons_self (.tail (.tail (.tail (.tail .head)))) (fun u hu => by
      have hu : u ∈ [(Stp.wr 3 (strB (markB 0)) k3 k4 k5).val q, Stp.fl.val q] := hu
      simp only [List.mem_cons, List.not_mem_nil, or_false] at hu
      rcases hu with rfl | rfl <;> exact Stp.one _ _) (by show i + 2 ≤ 1000000; omega)
    have em : l.map (Stp.val q) ++ (#[(Stp.wr 3 (strB (markB 0)) k3 k4 k5).val q, Stp.fl.val q] : Array Value).toList = (l ++ [Stp.wr 3 (strB (markB 0)) k3 k4 k5, Stp.fl]).map (Stp.val q) := by rw [List.map_append]; rfl
    rw [em] at h11
    refine ⟨_, _, _, w11, hr11, ?_⟩
    have hl2 : (l ++ [Stp.wr 3 (strB (markB 0)) k3 k4 k5, Stp.fl]).length = i + 2 := by rw [List.length_append, hli]; rfl
    have hop : (l ++ [Stp.wr 3 (strB (markB 0)) k3 k4 k5, Stp.fl]).map Stp.op = fmtOps i := by rw [List.map_append, hlo]; rfl
    have h11 : Dr q a F w0 w11 (rowP 48 1 g11 (i + 2) c11 ((l ++ [Stp.wr 3 (strB (markB 0)) k3 k4 k5, Stp.fl]).map (Stp.val q)) :: blk k31 #[(Stp.wr 3 (strB (markB 0)) k3 k4 k5).val q, Stp.fl.val q] 48 :: ((Stp.wr 3 (strB (markB 0)) k3 k4 k5).own q ++ (Y ++ X))) := h11
    rw [← hl2] at h11
    have hst := steps_spec h11 List.mem_cons_self (fun s hs x hx => by
      rcases List.mem_append.1 hs with hs | hs
      · exact List.mem_cons_of_mem _ (List.mem_cons_of_mem _ (List.mem_append_right _ (List.mem_append_left _ (hown s hs x hx))))
      · simp only [List.mem_cons, List.not_mem_nil, or_false] at hs
        rcases hs with rfl | rfl
        · exact List.mem_cons_of_mem _ (List.mem_cons_of_mem _ (List.mem_append_left _ hx))
        · simp [Stp.own] at hx) hF (by rw [hl2]; omega)
    rw [hop, hl2] at hst
    exact hst.mono fun e w12 ⟨he12, h12⟩ => ⟨_, he12, rfl, Dr.back (Dr.back (Dr.dropX (Dr.dropX h12)))⟩
end
end Go.Proofs.Ytbecjmfcppginaa
end
section
/-! ring: first, Left, Next, Trim. -/
namespace Go.Proofs.Ytbecjmfcppginaa
open Go.Sh Go.RowKit
set_option linter.unusedVariables false
set_option linter.unusedSimpArgs false
set_option maxRecDepth 20000
set_option maxHeartbeats 1000000
def rgC (q S t n : Nat) : Array Value := #[.pointer (some ⟨q, 0, none⟩), .int .i64 (S : Int), .int .u64 (t : Int), .int .u64 (n : Int)]
def leftF (S t n : Nat) : Int := IntKind.i64.wrap ((S : Int) - IntKind.i64.wrap (IntKind.u64.wrap (IntKind.u64.wrap ((n : Int) - (t : Int)) - 1)))
theorem left_val {S t n : Nat} (hS : S ≤ 1000000) (h : t < n) (h1 : n ≤ t + 1000000) : leftF S t n = (S : Int) - ((n : Int) - t - 1) := by
  unfold leftF
  rw [wrapU64, wrapU64, Int.emod_eq_of_lt (by omega) (by omega), Int.emod_eq_of_lt (by omega) (by omega), wrap64 ((n : Int) - t - 1) (by omega) (by omega), wrap64 _ (by omega) (by omega)]
def trimOps (m : Nat) : List Op := [some (3, strB (markB m)), none]
def trimF (a : AD) (t n m : Nat) : AD × Nat × Int :=
  if IntKind.u64.wrap ((m : Int) - (t : Int)) ≥ IntKind.u64.wrap ((n : Int) - (t : Int)) then (a, t, 1) else ((runS a (trimOps m)).1, (if (runS a (trimOps m)).2 = 0 then m else t), (runS a (trimOps m)).2)
section
variable {q r S t n : Nat} {a : AD} {F : List Nat} {w0 w : World} {X : List A}
theorem Dr.rdrew (h : Dr q a F w0 w X) : Dr q a F w0 w.drew X := by
  obtain ⟨D, hD, hA, hT⟩ := h
  exact ⟨D, hD, hA, hT.drew⟩
theorem Dr.blkRow {k m : Nat} {e : TypeId} {c : Array Value} {xs : List Value} (h : Dr q a F w0 w (blk k c e :: X)) (hc : c.toList = xs) (hn : c.size = m) (hm : m ≤ 1000000000) : Dr q a F w0 w (rowP e 1 (some k) m m xs :: X) := by
  obtain ⟨D, hD, hA, hT⟩ := h
  exact ⟨D, hD, hA, blk_row hT hc hn hm⟩
theorem first_spec (h : Dr q a F w0 w X) (hm : blk r (rgC q S t n) 72 ∈ X) (h1 : 1 ≤ S) (h2 : S ≤ 1000000) (m : Nat) : Ret Try.prog 33 #[.pointer (some ⟨r, 0, none⟩), .int .u64 (m : Int)] w (.int .i64 (4 + 41 * ((m % S : Nat) : Int))) := by
  refine ret_of (ring_Ring_first_calls ?_)
  unfold ring_Ring_first
  refine ⟨_, rfl, (S : Int), by rw [addr_add]; exact h.under.ld (c := rgC q S t n) hm rfl, ?_, ?_, Ext.refl w⟩
  · rw [wrapU64]; omega
  · have hlt : m % S < S := Nat.mod_lt _ (by omega)
    have e0 : IntKind.u64.wrap (S : Int) = (S : Int) := by rw [wrapU64]; omega
    rw [e0, Int.tmod_eq_emod_of_nonneg (by omega), ← Int.natCast_emod]
    generalize m % S = j at hlt
    rw [wrap64 (j : Int) (by omega) (by omega), wrap64 (41 * (j : Int)) (by omega) (by omega), wrap64 _ (by omega) (by omega)]
theorem left_spec (h : Dr q a F w0 w X) (hm : blk r (rgC q S t n) 72 ∈ X) : Ret Try.prog 15 #[.pointer (some ⟨r, 0, none⟩)] w (.int .i64 (leftF S t n)) := by
  refine ret_of (ring_Ring_Left_calls ?_)
  unfold ring_Ring_Left
  exact ⟨fun w' => Dr q a F w0 w' X, Dr.rdrew h, _, rfl, (S : Int), fun w' h' => by rw [addr_add]; exact h'.under.ld (c := rgC q S t n) hm rfl, _, rfl, (n : Int), fun w' h' => by rw [addr_add]; exact h'.under.ld (c := rgC q S t n) hm rfl, _, rfl, (t : Int), fun w' h' => by rw [addr_add]; exact h'.under.ld (c := rgC q S t n) hm rfl, rfl, ⟨rfl, rfl, Nat.le_refl _, fun b _ => rfl⟩⟩
theorem next_spec (h : Dr q a F w0 w X) (hm : blk r (rgC q S t n) 72 ∈ X) : Ret Try.prog 14 #[.pointer (some ⟨r, 0, none⟩)] w (.int .u64 (n : Int)) := by
  refine ret_of (ring_Ring_Next_calls ?_)
  unfold ring_Ring_Next
  exact ⟨_, rfl, (n : Int), by rw [addr_add]; exact h.under.ld (c := rgC q S t n) hm rfl, rfl, Ext.refl w⟩
theorem trim_spec' (h : Dr q a F w0 w (blk r (rgC q S t n) 72 :: X)) {N : Nat} (hF : a.Few N) (hN : N + 2 ≤ 1000000) {m : Nat} (hm : m < 2 ^ 64) : Calls Try.prog 23 #[.pointer (some ⟨r, 0, none⟩), .int .u64 (m : Int)] w fun e w' => e = .returned (.int .i64 (trimF a t n m).2.2) ∧ Dr q (trimF a t n m).1 F w0 w' (blk r (rgC q S (trimF a t n m).2.1 n) 72 :: X) := by
  refine (ring_Ring_Trim_calls (R := fun v w' => v = .int .i64 (trimF a t n m).2.2 ∧ Dr q (trimF a t n m).1 F w0 w' (blk r (rgC q S (trimF a t n m).2.1 n) 72 :: X)) ?_).mono fun e w' ⟨v, he, hv, h⟩ => ⟨by rw [he, hv], h⟩
  unfold ring_Ring_Trim
  have hd := Dr.rdrew h
  refine ⟨fun w' => Dr q a F w0 w' (blk r (rgC q S t n) 72 :: X), hd, _, rfl, (t : Int), fun w' h' => by rw [addr_add]; exact h'.under.ld (c := rgC q S t n) List.mem_cons_self rfl, _, rfl, (n : Int), fun w' h' => by rw [addr_add]; exact h'.under.ld (c := rgC q S t n) List.mem_cons_self rfl, _, rfl, (t : Int), fun w' h' => by rw [addr_add]; exact h'.under.ld (c := rgC q S t n) List.mem_cons_self rfl, dec_t fun hge => ?_, dec_f fun hlt => ?_⟩
  · have ht : trimF a t n m = (a, t, 1) := if_pos hge
    rw [ht]; exact ⟨rfl, hd⟩
  have ht : trimF a t n m = ((runS a (trimOps m)).1, (if (runS a (trimOps m)).2 = 0 then m else t), (runS a (trimOps m)).2) := if_neg hlt
  rw [ht]
  have hd2 := Dr.rdrew hd
  have rd : ∀ w', (∃ a' Y, Dr q a' F w0 w' (Y ++ blk r (rgC q S t n) 72 :: X)) → w'.cell? ⟨r, 0, none⟩ = some (.pointer (some ⟨q, 0, none⟩)) := fun w' ⟨a', Y, h'⟩ => h'.under.ld (c := rgC q S t n) (List.mem_append_right _ List.mem_cons_self) rfl
  refine ⟨fun w' => ∃ a' Y, Dr q a' F w0 w' (Y ++ blk r (rgC q S t n) 72 :: X), ⟨a, [], hd2⟩, _, rfl, _, rd, ?_⟩
  refine (mark_spec hm w.drew.drew).mono fun e w1 ⟨he1, hx1⟩ => ⟨_, he1, ⟨a, [], hd2.quiet hx1⟩, ?_⟩
  refine (written_spec (hd2.quiet hx1) 3 (strB (markB m))).mono fun e w2 ⟨k3, k4, k5, he2, h2⟩ => ⟨_, he2, ⟨a, _, h2⟩, _, rfl, _, rd, ?_⟩
  refine Dr.lit h2 (lit2 _ _ _ _ _ _) fun k34 w3 h3 => ⟨⟨a, _ :: (Stp.wr 3 (strB (markB m)) k3 k4 k5).own q, h3⟩, ?_⟩
  have h3 : Dr q a F w0 w3 (rowP 48 1 (some k34) 2 2 ([Stp.wr 3 (strB (markB m)) k3 k4 k5, Stp.fl].map (Stp.val q)) :: ((Stp.wr 3 (strB (markB m)) k3 k4 k5).own q ++ blk r (rgC q S t n) 72 :: X)) := Dr.blkRow h3 rfl rfl (by decide)
  refine (steps_spec (l := [Stp.wr 3 (strB (markB m)) k3 k4 k5, Stp.fl]) (g := some k34) h3 List.mem_cons_self (fun s hs x hx => by
    simp only [List.mem_cons, List.not_mem_nil, or_false] at hs
    rcases hs with rfl | rfl
    · exact List.mem_cons_of_mem _ (List.mem_append_left _ hx)
    · simp [Stp.own] at hx) hF (by show N + 2 ≤ 1000000; omega)).mono fun e w4 ⟨he4, h4⟩ => ⟨_, he4, ⟨_, _ :: (Stp.wr 3 (strB (markB m)) k3 k4 k5).own q, h4⟩, ?_⟩
  have h4 : Dr q (runS a (trimOps m)).1 F w0 w4 (blk r (rgC q S t n) 72 :: X) := Dr.back (Dr.dropX h4)
  have eo : [Stp.wr 3 (strB (markB m)) k3 k4 k5, Stp.fl].map Stp.op = trimOps m := rfl
  rw [eo]
  refine ⟨beq_t fun h0 => ⟨_, rfl, ?_⟩, beq_f fun hne => ?_⟩
  · rw [addr_add]
    refine Dr.st1 (c' := rgC q S m n) h4 (show 0 + 2 < 4 by decide) rfl rfl fun w5 h5 => ⟨rfl, ?_⟩
    show Dr q _ F w0 w5 (blk r (rgC q S (if (runS a (trimOps m)).2 = 0 then m else t) n) 72 :: X)
    rw [if_pos h0]; exact h5
  · refine ⟨rfl, ?_⟩
    show Dr q _ F w0 w4 (blk r (rgC q S (if (runS a (trimOps m)).2 = 0 then m else t) n) 72 :: X)
    rw [if_neg hne]; exact h4
end
end Go.Proofs.Ytbecjmfcppginaa
end
section
/-! ring: Append. -/
namespace Go.Proofs.Ytbecjmfcppginaa
open Go.Sh Go.RowKit
set_option linter.unusedVariables false
set_option linter.unusedSimpArgs false
set_option maxRecDepth 20000
set_option maxHeartbeats 1000000
def loadOps (at_ : Int) (L : List (List UInt8)) : Nat → List Op
  | 0 => []
  | i + 1 => loadOps at_ L i ++ [some (at_ + 1 + (i : Int), strB (L.getD i []))]
def appOps (S n : Nat) (row : Int) (l : List RP) : List Op :=
  loadOps (4 + 41 * ((n % S : Nat) : Int)) (datas l) l.length ++ [none, some (4 + 41 * ((n % S : Nat) : Int), strB (headR n row l (sumR l))), none]
section
variable {q r S t n : Nat} {a : AD} {F : List Nat} {w0 w : World} {X : List A}
theorem append_busy (h : Dr q a F w0 w X) (hm : blk r (rgC q S t n) 72 ∈ X) (hb : leftF S t n < 1) (row : Int) (p : Option Addr) (m c : Nat) :
    Calls Try.prog 12 #[.pointer (some ⟨r, 0, none⟩), .int .i64 row, .slice p m c] w fun e w' => e = .returned (.tuple #[.int .u64 0, .int .i64 130]) ∧ Dr q a F w0 w' X := by
  refine (ring_Ring_Append_calls (R := fun v w' => v = .tuple #[.int .u64 0, .int .i64 130] ∧ Dr q a F w0 w' X) ?_).mono fun e w' ⟨v, he, hv, h⟩ => ⟨by rw [he, hv], h⟩
  unfold ring_Ring_Append
  exact (left_spec h hm).mono fun e w1 ⟨he1, hx1⟩ => ⟨_, he1, dec_t fun _ => ⟨rfl, h.quiet hx1⟩, dec_f fun hn => absurd hb hn⟩
theorem Dr.intoT {Y : List A} {K : Prop} (h : Dr q a F w0 w X) (hK : ∀ Γ, T F w0 w (X ++ Γ) → (∀ w' Y, T F w0 w' (Y ++ (X ++ Γ)) → Dr q a F w0 w' (Y ++ X)) → K) : K := by
  obtain ⟨D, hD, hA, hT⟩ := h
  exact hK _ hT fun w' Y h' => ⟨D, hD, hA, by rw [List.append_assoc]; exact h'⟩
theorem append_bad (h : Dr q a F w0 w X) (hm : blk r (rgC q S t n) 72 ∈ X) (hb : ¬ leftF S t n < 1) {row : Int} {g : Option Nat} {c : Nat} {l : List RP} (hp : rowP 84 3 g l.length c (rpL l) ∈ X) (hl : l.length ≤ 1000000) (hn : ¬ (PlacedR row l ∧ LoadedR l)) :
    Calls Try.prog 12 #[.pointer (some ⟨r, 0, none⟩), .int .i64 row, .slice (ptr g) l.length c] w fun e w' => e = .returned (.tuple #[.int .u64 0, .int .i64 1]) ∧ Dr q a F w0 w' X := by
  refine (ring_Ring_Append_calls (R := fun v w' => v = .tuple #[.int .u64 0, .int .i64 1] ∧ Dr q a F w0 w' X) ?_).mono fun e w' ⟨v, he, hv, h⟩ => ⟨by rw [he, hv], h⟩
  unfold ring_Ring_Append
  refine (left_spec h hm).mono fun e w1 ⟨he1, hx1⟩ => ⟨_, he1, dec_t fun hh => absurd hh hb, dec_f fun _ => ?_⟩
  have h1 := h.quiet hx1
  refine ⟨_, rfl, (n : Int), by rw [addr_add]; exact h1.under.ld (c := rgC q S t n) hm rfl, ?_⟩
  refine Dr.intoT (Y := []) h1 fun Γ hT hback => ?_
  exact (rencode_bad (seq := n) (row := row) hT (List.mem_append_left _ hp) hl hn).mono fun e w2 ⟨he2, h2⟩ => ⟨_, _, _, _, _, he2, yes rfl ⟨rfl, hback w2 [] h2⟩⟩
end
end Go.Proofs.Ytbecjmfcppginaa
end
section
/-! ring: Append of a record that may be. -/
namespace Go.Proofs.Ytbecjmfcppginaa
open Go.Sh Go.RowKit
set_option linter.unusedVariables false
set_option linter.unusedSimpArgs false
set_option maxRecDepth 20000
set_option maxHeartbeats 1000000
section
variable {q r S t n : Nat} {a : AD} {F : List Nat} {w0 w : World} {X : List A}
theorem append_good (h : Dr q a F w0 w (blk r (rgC q S t n) 72 :: X)) {N : Nat} (hF : a.Few N) (hN : N + 100 ≤ 1000000) (h1S : 1 ≤ S) (h2S : S ≤ 1000000) (hs : n < 2 ^ 64) (hb : ¬ leftF S t n < 1) {row : Int} {g : Option Nat} {c : Nat} {l : List RP} (hp : rowP 84 3 g l.length c (rpL l) ∈ X) (hP : PlacedR row l) (hL : LoadedR l) :
    Calls Try.prog 12 #[.pointer (some ⟨r, 0, none⟩), .int .i64 row, .slice (ptr g) l.length c] w fun e w' => e = .returned (.tuple #[.int .u64 (if (runS a (appOps S n row l)).2 = 0 then (n : Int) else 0), .int .i64 (runS a (appOps S n row l)).2]) ∧ Dr q (runS a (appOps S n row l)).1 F w0 w' (blk r (rgC q S t (if (runS a (appOps S n row l)).2 = 0 then (n + 1) % 2 ^ 64 else n)) 72 :: X) := by
  refine (ring_Ring_Append_calls (R := fun v w' => v = .tuple #[.int .u64 (if (runS a (appOps S n row l)).2 = 0 then (n : Int) else 0), .int .i64 (runS a (appOps S n row l)).2] ∧ Dr q (runS a (appOps S n row l)).1 F w0 w' (blk r (rgC q S t (if (runS a (appOps S n row l)).2 = 0 then (n + 1) % 2 ^ 64 else n)) 72 :: X)) ?_).mono fun e w' ⟨v, he, hv, h⟩ => ⟨by rw [he, hv], h⟩
  unfold ring_Ring_Append
  have hl40 := hP.2.2.2.1
  refine (left_spec h List.mem_cons_self).mono fun e w1 ⟨he1, hx1⟩ => ⟨_, he1, dec_t fun hh => absurd hh hb, dec_f fun _ => ?_⟩
  have h1 := h.quiet hx1
  refine ⟨_, rfl, (n : Int), by rw [addr_add]; exact h1.under.ld (c := rgC q S t n) List.mem_cons_self rfl, ?_⟩
  refine Dr.intoT (Y := []) h1 fun Γ hT hback => ?_
  refine (rencode_good (seq := n) (row := row) hT hs (List.mem_append_left _ (List.mem_cons_of_mem _ hp)) hP hL).mono fun e w2 ⟨gs, cs, he2, hT2⟩ => ⟨_, _, _, _, _, he2, no rfl ?_⟩
  have h2 : Dr q a F w0 w2 (rowP 9 1 gs l.length cs (strV (datas l)) :: blk r (rgC q S t n) 72 :: X) := hback w2 [_] hT2
  refine (first_spec h2 (List.mem_cons_of_mem _ List.mem_cons_self) h1S h2S n).mono fun e w3 ⟨he3, hx3⟩ => ⟨_, he3, ?_⟩
  have h3 := h2.quiet hx3
  have hap : appOps S n row l = loadOps (4 + 41 * ((n % S : Nat) : Int)) (datas l) l.length ++ [none, some (4 + 41 * ((n % S : Nat) : Int), strB (headR n row l (sumR l))), none] := rfl
  obtain ⟨at_, hat, hat0, hat1⟩ : ∃ x : Int, 4 + 41 * ((n % S : Nat) : Int) = x ∧ 0 ≤ x ∧ x ≤ 50000000 := ⟨_, rfl, by omega, by have : n % S < S := Nat.mod_lt _ (by omega); omega⟩
  rw [hat] at hap
  rw [hat]
  refine ⟨fun vs w' => ∃ (i : Nat) (g : Option Nat) (cap : Nat) (ls : List Stp) (Y : List A), vs = [.slice (ptr g) i cap, .int .i64 (i : Int)] ∧ i ≤ l.length ∧ ls.length = i ∧ ls.map Stp.op = loadOps at_ (datas l) i ∧ (∀ s ∈ ls, ∀ x ∈ s.own q, x ∈ Y) ∧ Dr q a F w0 w' (rowP 48 1 g i cap (ls.map (Stp.val q)) :: (Y ++ (rowP 9 1 gs l.length cs (strV (datas l)) :: blk r (rgC q S t n) 72 :: X))), fun vs _ => match vs with | [_, .int _ i] => (l.length - i).toNat | _ => 0, ⟨0, none, 0, [], [], rfl, by omega, rfl, rfl, fun s hs => by simp at hs, Dr.nilRow h3 _ _⟩, ?_⟩
  rintro vs w4 ⟨i, g4, c4, ls, Y, rfl, hi, hli, hlo, hown, h4⟩
  have mr : ∀ {y : A}, y ∈ (blk r (rgC q S t n) 72 :: X) → y ∈ (rowP 48 1 g4 i c4 (ls.map (Stp.val q)) :: (Y ++ (rowP 9 1 gs l.length cs (strV (datas l)) :: blk r (rgC q S t n) 72 :: X))) := fun hy => List.mem_cons_of_mem _ (List.mem_append_right _ (List.mem_cons_of_mem _ hy))
  refine ⟨_, _, _, _, rfl, dec_t fun hlt => ?_, dec_f fun hge => ?_⟩
  · have hlt : i < l.length := by omega
    obtain ⟨bs, rfl, hcs⟩ := T.row1 (i := i) (v := .string (strB ((datas l).getD i []))) h4.under (List.mem_cons_of_mem _ (List.mem_append_right _ List.mem_cons_self)) (by
      unfold strV; rw [List.getElem?_map, List.getD_eq_getElem?_getD, List.getElem?_eq_getElem (by rw [datas_len]; exact hlt)]; rfl)
    refine ⟨_, rfl, by omega, by omega, _, by rw [Int.toNat_natCast]; exact hcs, _, rfl, _, h4.under.ld (c := rgC q S t n) (mr List.mem_cons_self) rfl, ?_⟩
    have e41 : IntKind.i64.wrap (IntKind.i64.wrap (at_ + 1) + (i : Int)) = at_ + 1 + (i : Int) := by
      rw [wrap64 (at_ + 1) (by omega) (by omega), wrap64 _ (by omega) (by omega)]
    rw [e41]
    refine (written_spec h4 (at_ + 1 + (i : Int)) (strB ((datas l).getD i []))).mono fun e w5 ⟨k3, k4, k5, he5, h5⟩ => ⟨_, he5, ?_⟩
    refine Dr.lit h5 (lit1 _ _ _) fun k22 w6 h6 => ?_
    generalize hst : Stp.wr (at_ + 1 + (i : Int)) (strB ((datas l).getD i [])) k3 k4 k5 = st at *
    have h6 : Dr q a F w0 w6 (blk k22 #[st.val q] 48 :: (st.own q ++ (rowP 48 1 g4 i c4 (ls.map (Stp.val q)) :: (Y ++ (rowP 9 1 (some bs) l.length cs (strV (datas l)) :: blk r (rgC q S t n) 72 :: X))))) := by subst hst; exact h6
    obtain ⟨g7, c7, w7, hr7, h7⟩ := Dr.app (Δ := blk k22 #[st.val q] 48 :: (st.own q ++ (Y ++ (rowP 9 1 (some bs) l.length cs (strV (datas l)) :: blk r (rgC q S t n) 72 :: X)))) h6 List.mem_cons_self (by subst hst; exact .tail (.tail (.tail (.tail .head)))) (fun u hu => by
      have hu : u ∈ [st.val q] := hu
      rw [List.mem_singleton.1 hu]; exact Stp.one _ _) (by show i + 1 ≤ 1000000; omega)
    have em : ls.map (Stp.val q) ++ (#[st.val q] : Array Value).toList = (ls ++ [st]).map (Stp.val q) := by rw [List.map_append]; rfl
    rw [em] at h7
    refine ⟨_, _, _, w7, by subst hst; exact hr7, ⟨i + 1, g7, c7, ls ++ [st], blk k22 #[st.val q] 48 :: (st.own q ++ Y), ?_, by omega, by rw [List.length_append, hli]; rfl, ?_, ?_, by rw [List.cons_append, List.append_assoc]; exact h7⟩, ?_⟩
    · rw [wrap64 _ (by omega) (by omega)]; rfl
    · rw [List.map_append, hlo, ← hst]; rfl
    · intro s hs x hx
      rcases List.mem_append.1 hs with hs | hs
      · exact List.mem_cons_of_mem _ (List.mem_append_right _ (hown s hs x hx))
      · rw [List.mem_singleton.1 hs] at hx
        exact List.mem_cons_of_mem _ (List.mem_append_left _ hx)
    · show ((l.length : Int) - IntKind.i64.wrap ((i : Int) + 1)).toNat < ((l.length : Int) - (i : Int)).toNat
      rw [wrap64 _ (by omega) (by omega)]; omega
  · have hie : i = l.length := by omega
    subst hie
    have rd : ∀ w', (∃ a' Y, Dr q a' F w0 w' (Y ++ blk r (rgC q S t n) 72 :: X)) → w'.cell? ⟨r, 0, none⟩ = some (.pointer (some ⟨q, 0, none⟩)) := fun w' ⟨a', Y, h'⟩ => h'.under.ld (c := rgC q S t n) (List.mem_append_right _ List.mem_cons_self) rfl
    have hd := Dr.rdrew h4
    have hz : ∀ {w' : World} {a' : AD} {Y' : List A} {y1 : A}, Dr q a' F w0 w' (Y' ++ (y1 :: (Y ++ (rowP 9 1 gs l.length cs (strV (datas l)) :: blk r (rgC q S t n) 72 :: X)))) → ∃ a' Y, Dr q a' F w0 w' (Y ++ blk r (rgC q S t n) 72 :: X) := fun {w' a' Y' y1} hh => ⟨a', Y' ++ (y1 :: (Y ++ [rowP 9 1 gs l.length cs (strV (datas l))])), by simpa using hh⟩
    refine ⟨fun w' => ∃ a' Y, Dr q a' F w0 w' (Y ++ blk r (rgC q S t n) 72 :: X), hz (Y' := []) hd, _, rfl, _, rd, _, rfl, _, rd, ?_⟩
    refine (written_spec hd at_ (strB (headR n row l (sumR l)))).mono fun e w8 ⟨k3, k4, k5, he8, h8⟩ => ⟨_, he8, hz h8, _, rfl, _, rd, ?_⟩
    refine Dr.lit h8 (lit3 _ _ _ _ _ _ _ _ _) fun k77 w9 h9 => ⟨hz (Y' := _ :: (Stp.wr at_ (strB (headR n row l (sumR l))) k3 k4 k5).own q) h9, ?_⟩
    generalize hst : Stp.wr at_ (strB (headR n row l (sumR l))) k3 k4 k5 = st at *
    have h9 : Dr q a F w0 w9 (blk k77 #[Stp.fl.val q, st.val q, Stp.fl.val q] 48 :: (st.own q ++ (rowP 48 1 g4 ls.length c4 (ls.map (Stp.val q)) :: (Y ++ (rowP 9 1 gs l.length cs (strV (datas l)) :: blk r (rgC q S t n) 72 :: X))))) := by subst hst; rw [hli]; exact h9
    obtain ⟨g11, c11, w10, hr10, h10⟩ := Dr.app (Δ := blk k77 #[Stp.fl.val q, st.val q, Stp.fl.val q] 48 :: (st.own q ++ (Y ++ (rowP 9 1 gs l.length cs (strV (datas l)) :: blk r (rgC q S t n) 72 :: X)))) h9 List.mem_cons_self (by subst hst; exact .tail (.tail (.tail (.tail .head)))) (fun u hu => by
      have hu : u ∈ [Stp.fl.val q, st.val q, Stp.fl.val q] := hu
      simp only [List.mem_cons, List.not_mem_nil, or_false] at hu
      rcases hu with rfl | rfl | rfl <;> exact Stp.one _ _) (by show ls.length + 3 ≤ 1000000; omega)
    have em : ls.map (Stp.val q) ++ (#[Stp.fl.val q, st.val q, Stp.fl.val q] : Array Value).toList = (ls ++ [Stp.fl, st, Stp.fl]).map (Stp.val q) := by rw [List.map_append]; rfl
    rw [em] at h10
    have hl3 : (ls ++ [Stp.fl, st, Stp.fl]).length = ls.length + 3 := by rw [List.length_append]; rfl
    have hop : (ls ++ [Stp.fl, st, Stp.fl]).map Stp.op = appOps S n row l := by rw [List.map_append, hlo, hap, ← hst]; rfl
    have fold : ∀ {w' : World} {a' : AD} {y1 y2 : A}, Dr q a' F w0 w' (y1 :: y2 :: (st.own q ++ (Y ++ (rowP 9 1 gs l.length cs (strV (datas l)) :: blk r (rgC q S t n) 72 :: X)))) → Dr q a' F w0 w' ((y1 :: y2 :: (st.own q ++ (Y ++ [rowP 9 1 gs l.length cs (strV (datas l))]))) ++ blk r (rgC q S t n) 72 :: X) := fun hh => by simpa using hh
    refine ⟨_, _, _, w10, by subst hst; rw [hli] at hr10; exact hr10, ⟨a, _, fold h10⟩, ?_⟩
    have h10 : Dr q a F w0 w10 (rowP 48 1 g11 (ls.length + 3) c11 ((ls ++ [Stp.fl, st, Stp.fl]).map (Stp.val q)) :: blk k77 #[Stp.fl.val q, st.val q, Stp.fl.val q] 48 :: (st.own q ++ (Y ++ (rowP 9 1 gs l.length cs (strV (datas l)) :: blk r (rgC q S t n) 72 :: X)))) := h10
    rw [← hl3] at h10
    have hsp := steps_spec h10 List.mem_cons_self (fun s hs x hx => by
      rcases List.mem_append.1 hs with hs | hs
      · exact List.mem_cons_of_mem _ (List.mem_cons_of_mem _ (List.mem_append_right _ (List.mem_append_left _ (hown s hs x hx))))
      · simp only [List.mem_cons, List.not_mem_nil, or_false] at hs
        rcases hs with rfl | rfl | rfl
        · simp [Stp.own] at hx
        · exact List.mem_cons_of_mem _ (List.mem_cons_of_mem _ (List.mem_append_left _ hx))
        · simp [Stp.own] at hx) hF (by rw [hl3]; omega)
    rw [hop, hl3, hli] at hsp
    refine hsp.mono fun e w11 ⟨he11, h11⟩ => ⟨_, he11, ⟨_, _, fold h11⟩, ?_⟩
    have h12 := Dr.back (fold h11)
    refine ⟨bne_t fun hne => ?_, bne_f fun heq => ?_⟩
    · rw [if_neg hne, if_neg hne]; exact ⟨rfl, h12⟩
    · rw [if_pos heq, if_pos heq]
      refine ⟨_, rfl, (n : Int), by rw [addr_add]; exact h12.under.ld (c := rgC q S t n) List.mem_cons_self rfl, _, rfl, ?_⟩
      have eW : IntKind.u64.wrap ((n : Int) + 1) = (((n + 1) % 2 ^ 64 : Nat) : Int) := by rw [wrapU64]; omega
      rw [eW, addr_add]
      exact Dr.st1 (c' := rgC q S t ((n + 1) % 2 ^ 64)) h12 (show 0 + 3 < 4 by decide) rfl rfl fun w13 h13 => ⟨by rw [heq], h13⟩
end
end Go.Proofs.Ytbecjmfcppginaa
end
section
/-! ring: a head that was written is read back. -/
namespace Go.Proofs.Ytbecjmfcppginaa
open Go.Sh Go.RowKit
set_option linter.unusedVariables false
set_option linter.unusedSimpArgs false
set_option maxRecDepth 20000
set_option maxHeartbeats 1000000
theorem partOf_plB {x : RP} (h : 0 ≤ x.col ∧ x.col < 10 ∧ 0 ≤ x.off ∧ x.off < 4) : partOf (plB x) = { x with data := [] } := by
  have e : (plB x).toNat = 4 * x.col.toNat + x.off.toNat := by
    unfold plB
    rw [UInt8.toNat_ofNat']
    omega
  unfold partOf
  rw [e]
  have e1 : ((((4 * x.col.toNat + x.off.toNat) / 4 : Nat)) : Int) = x.col := by omega
  have e2 : ((((4 * x.col.toNat + x.off.toNat) % 4 : Nat)) : Int) = x.off := by omega
  rw [e1, e2]
theorem decH_magic {b : List UInt8} (h : b.take 4 ≠ magJ) : (decH b).2 ≠ 0 := by
  unfold decH
  split
  · decide
  · split
    · decide
    · first | decide | (rw [if_pos h]; decide)
end Go.Proofs.Ytbecjmfcppginaa
end
section
/-! ring: what Append writes is read back. -/
namespace Go.Proofs.Ytbecjmfcppginaa
open Go.Sh Go.RowKit
set_option linter.unusedVariables false
set_option linter.unusedSimpArgs false
set_option maxRecDepth 20000
set_option maxHeartbeats 1000000
def bare (l : List RP) : List RP := l.map fun x => { x with data := [] }
theorem bare_len (l : List RP) : (bare l).length = l.length := List.length_map ..
theorem bare_plB (l : List RP) : (bare l).map plB = l.map plB := by unfold bare; rw [List.map_map]; rfl
theorem bare_head (seq : Nat) (row : Int) (l : List RP) (sum : B32) : headR seq row (bare l) sum = headR seq row l sum := by
  unfold headR; rw [bare_plB, bare_len]
theorem bare_placed {row : Int} {l : List RP} (h : PlacedR row l) : PlacedR row (bare l) := by
  obtain ⟨h1, h2, h3, h4, h5, h6⟩ := h
  refine ⟨h1, h2, by rw [bare_len]; exact h3, by rw [bare_len]; exact h4, fun x hx => ?_, ?_⟩
  · obtain ⟨y, hy, rfl⟩ := List.mem_map.1 hx
    exact h5 y hy
  · unfold bare; rw [List.map_map]; exact h6
theorem partOf_map {l : List RP} (h : ∀ x ∈ l, 0 ≤ x.col ∧ x.col < 10 ∧ 0 ≤ x.off ∧ x.off < 4) : (l.map plB).map partOf = bare l := by
  unfold bare; rw [List.map_map]
  exact List.map_congr_left fun x hx => partOf_plB (h x hx)
theorem withD_bare {l : List RP} : withD (bare l) (datas l) = l := by
  apply List.ext_getElem?; intro j
  rw [withD, fillN, List.getElem?_mapIdx, bare, List.getElem?_map, List.length_map]
  by_cases hj : j < l.length
  · rw [List.getElem?_eq_getElem hj]
    simp only [Option.map_some, if_pos hj]
    rw [List.getD_eq_getElem?_getD, datas, List.getElem?_map, List.getElem?_eq_getElem hj]; rfl
  · rw [List.getElem?_eq_none (by omega)]; rfl
theorem drop_at {A B : List UInt8} {n : Nat} (h : A.length = n) : (A ++ B).drop n = B := by subst h; exact List.drop_left
theorem take_at {A B : List UInt8} {n : Nat} (h : A.length = n) : (A ++ B).take n = A := by subst h; exact List.take_left
theorem head_parts (seq : Nat) (row : Int) (l : List RP) (sum : B32) : ∃ r, headR seq row l sum = magJ ++ (leB seq 8 ++ (leB row.toNat 2 ++ (leB l.length 1 ++ (leB sum.toNat 4 ++ r)))) := by
  have key : ∀ (m z : List UInt8) (k : Nat), (magJ ++ (leB seq 8 ++ (leB row.toNat 2 ++ (leB l.length 1 ++ (leB sum.toNat 4 ++ [])))) ++ m ++ List.replicate k 0) ++ z = magJ ++ (leB seq 8 ++ (leB row.toNat 2 ++ (leB l.length 1 ++ (leB sum.toNat 4 ++ (m ++ (List.replicate k 0 ++ z)))))) := fun m z k => by simp only [List.append_assoc, List.nil_append]
  exact ⟨_, key (l.map plB) (four (crcSum (padB (frontR seq row l.length sum ++ l.map plB) 60))) (60 - (frontR seq row l.length sum ++ l.map plB).length)⟩
theorem decH_headR {seq : Nat} {row : Int} {l : List RP} {sum : B32} (hs : seq < 2 ^ 64) (hP : PlacedR row l) : decH (headR seq row l sum) = ((seq, row, bare l, sum), 0) := by
  have h40 := hP.2.2.2.1
  have hlen : (headR seq row l sum).length = 64 := headR_len h40
  have hml : (frontR seq row l.length sum ++ l.map plB).length = 19 + l.length := by rw [List.length_append, frontR_len, List.length_map]
  have hopen : openB (headR seq row l sum) = (padB (frontR seq row l.length sum ++ l.map plB) 60, true) := open_seal (n := 64) (by omega)
  have htk : (headR seq row l sum).take 60 = padB (frontR seq row l.length sum ++ l.map plB) 60 := by
    have hp := padB_len (l := frontR seq row l.length sum ++ l.map plB) (n := 60) (by omega)
    exact take_at hp
  obtain ⟨r, hr⟩ := head_parts seq row l sum
  have d4 : (headR seq row l sum).drop 4 = leB seq 8 ++ (leB row.toNat 2 ++ (leB l.length 1 ++ (leB sum.toNat 4 ++ r))) := by rw [hr]; exact drop_at rfl
  have d12 : (headR seq row l sum).drop 12 = leB row.toNat 2 ++ (leB l.length 1 ++ (leB sum.toNat 4 ++ r)) := by
    have : ((headR seq row l sum).drop 4).drop 8 = (headR seq row l sum).drop 12 := by rw [List.drop_drop]
    rw [← this, d4]; exact drop_at (leB_len _ _)
  have d14 : (headR seq row l sum).drop 14 = leB l.length 1 ++ (leB sum.toNat 4 ++ r) := by
    have : ((headR seq row l sum).drop 12).drop 2 = (headR seq row l sum).drop 14 := by rw [List.drop_drop]
    rw [← this, d12]; exact drop_at (leB_len _ _)
  have d15 : (headR seq row l sum).drop 15 = leB sum.toNat 4 ++ r := by
    have : ((headR seq row l sum).drop 14).drop 1 = (headR seq row l sum).drop 15 := by rw [List.drop_drop]
    rw [← this, d14]; exact drop_at (leB_len _ _)
  have q8 : (256 : Nat) ^ 8 = 2 ^ 64 := by decide
  have n1 : leN (((headR seq row l sum).drop 4).take 8) = seq := by rw [d4, take_at (leB_len _ _)]; exact leN_leB _ _ (by omega)
  have n2 : leN (((headR seq row l sum).drop 12).take 2) = row.toNat := by
    rw [d12, take_at (leB_len _ _)]; exact leN_leB _ _ (by have := hP.1; have := hP.2.1; omega)
  have n3 : leN (((headR seq row l sum).drop 14).take 1) = l.length := by rw [d14, take_at (leB_len _ _)]; exact leN_leB _ _ (by omega)
  have n4 : leN (((headR seq row l sum).drop 15).take 4) = sum.toNat := by rw [d15, take_at (leB_len _ _)]; exact leN_leB _ _ (by have := sum.isLt; omega)
  have ho : headOf (headR seq row l sum) = (seq, row, bare l, sum) := by
    unfold headOf
    rw [n1, n2, n3, n4, htk]
    have e1 : ((padB (frontR seq row l.length sum ++ l.map plB) 60).drop 19).take l.length = l.map plB := by
      unfold padB
      rw [List.append_assoc, drop_at (frontR_len ..), take_at (List.length_map ..)]
    rw [e1, partOf_map hP.2.2.2.2.1]
    have e2 : ((row.toNat : Nat) : Int) = row := by have := hP.1; omega
    have e3 : BitVec.ofNat 32 sum.toNat = sum := by simp
    rw [e2, e3]
  have hm : (headR seq row l sum).take 4 = magJ := by rw [hr]; exact take_at rfl
  unfold decH
  rw [if_neg (by omega), if_neg (by rw [hopen]; simp), if_neg (by rw [hm]; simp), ho, if_pos ⟨bare_placed hP, bare_head ..⟩]
theorem decR_headR {seq : Nat} {row : Int} {l : List RP} (hs : seq < 2 ^ 64) (hP : PlacedR row l) (hL : LoadedR l) : decR (headR seq row l (sumR l)) (datas l) = ((seq, row, l), 0) := by
  unfold decR
  rw [decH_headR hs hP]
  rw [if_neg (by simp), if_neg (by simp [bare_len, datas_len])]
  show (if ¬ LoadedR (withD (bare l) (datas l)) then _ else if crcSum (datas l).flatten ≠ sumR l then _ else ((seq, row, withD (bare l) (datas l)), 0)) = _
  rw [withD_bare, if_neg (fun h => h hL), if_neg (fun h => h rfl)]
theorem magM_ne : (magM : List UInt8) ≠ magJ := by decide
theorem mark_open (n : Nat) : openB (markB n) = (padB (magM ++ leB n 8) 60, true) := open_seal (n := 64) (by rw [List.length_append, leB_len]; decide)
theorem mark_dec {n : Nat} (hn : n < 2 ^ 64) : leN (((openB (markB n)).1.drop 4).take 8) = n := by
  rw [mark_open]
  show leN (((padB (magM ++ leB n 8) 60).drop 4).take 8) = n
  unfold padB
  rw [List.append_assoc, drop_at (A := magM) (n := 4) rfl, take_at (leB_len _ _)]
  exact leN_leB _ _ (by have q8 : (256 : Nat) ^ 8 = 2 ^ 64 := by decide
                        omega)
theorem zero_head : (decH (List.replicate 64 0)).2 ≠ 0 := decH_magic (by decide)
end Go.Proofs.Ytbecjmfcppginaa
end
section
/-! ring: what stands on a drive when steps are taken. -/
namespace Go.Proofs.Ytbecjmfcppginaa
open Go.Sh Go.RowKit
set_option linter.unusedVariables false
set_option linter.unusedSimpArgs false
set_option maxRecDepth 20000
set_option maxHeartbeats 1000000
def updF (f : Nat → ByteArray) (i : Nat) (s : ByteArray) : Nat → ByteArray := fun j => if j = i then s else f j
/-- no sector is spoilt; f is what is read -/
structure AD.Wet (a : AD) (n : Nat) (f : Nat → ByteArray) : Prop where
  on : a.On n
  sp : ∀ j, a.spoilt j = false
  top : ∀ j, j < n → a.top j = f j
theorem AD.Hold.wet {a : AD} {n : Nat} {f : Nat → ByteArray} (h : a.Hold n f) : a.Wet n f := ⟨h.on, h.sp, fun j hj => by rw [AD.top_none (h.pend j), h.safe j hj]⟩
theorem AD.Wet.put {a : AD} {n : Nat} {f : Nat → ByteArray} (h : a.Wet n f) {i : Int} (h0 : 0 ≤ i) (hi : i < (n : Int)) {s : ByteArray} (hs : s.size = 64) : a.put i s = 0 := h.on.put ⟨h0, hi⟩ hs
theorem AD.Wet.write {a : AD} {n : Nat} {f : Nat → ByteArray} (h : a.Wet n f) {i : Int} (h0 : 0 ≤ i) (hi : i < (n : Int)) {s : ByteArray} (hs : s.size = 64) : (a.write i s).Wet n (updF f i.toNat s) := by
  have hp := h.put h0 hi hs
  refine ⟨h.on.write i s, fun j => ?_, fun j hj => ?_⟩
  · rw [AD.write_of hp]
    show (if j = i.toNat then false else a.spoilt j) = false
    rw [h.sp]; split <;> rfl
  · rw [AD.write_top hp]
    unfold updF
    split
    · rfl
    · exact h.top j hj
theorem AD.Wet.flush {a : AD} {n : Nat} {f : Nat → ByteArray} (h : a.Wet n f) : a.flush.Hold n f := by
  have hf := h.on.flush1
  refine ⟨h.on.flush, fun j => ?_, fun j => ?_, fun j hj => ?_⟩
  · rw [AD.flush_of hf]; rfl
  · rw [AD.flush_of hf]; exact h.sp j
  · rw [(AD.flush_safe hf (j := j) (by rw [h.on.len]; exact hj)).1]; exact h.top j hj
theorem AD.Wet.read {a : AD} {n : Nat} {f : Nat → ByteArray} (h : a.Wet n f) {i : Int} (h0 : 0 ≤ i) (hi : i < (n : Int)) : a.read i = (f i.toNat, 0) := by
  rw [read_on h.on ⟨h0, hi⟩, if_neg (by rw [h.sp]; decide), h.top _ (by omega)]
theorem AD.Wet.congr {a : AD} {n : Nat} {f g : Nat → ByteArray} (h : a.Wet n f) (e : ∀ j, j < n → f j = g j) : a.Wet n g := ⟨h.on, h.sp, fun j hj => by rw [h.top j hj, e j hj]⟩
theorem AD.Hold.congr {a : AD} {n : Nat} {f g : Nat → ByteArray} (h : a.Hold n f) (e : ∀ j, j < n → f j = g j) : a.Hold n g := ⟨h.on, h.pend, h.sp, fun j hj => by rw [h.safe j hj, e j hj]⟩
/-- a crash of a drive where nothing is pending changes nothing -/
theorem AD.Hold.crash0 {a : AD} {n : Nat} {f : Nat → ByteArray} (h : a.Hold n f) (keep : List UInt8) : (a.crash keep).Hold n f := by
  refine ⟨⟨h.on.dead, rfl, ?_⟩, fun j => rfl, fun j => h.sp j, fun j hj => ?_⟩
  · show (keptFrom (keepG keep) a.pend 0 0 a.safe).length = n
    rw [keptFrom_len]; exact h.on.len
  · show (keptFrom (keepG keep) a.pend 0 0 a.safe).getD j noB = _
    obtain ⟨k', hk⟩ := keptFrom_get (keepG keep) a.pend noB a.safe 0 0 j (by rw [h.on.len]; exact hj)
    rw [hk, Nat.zero_add, h.pend, if_pos rfl, h.safe j hj]
def opsF : (Nat → ByteArray) → List Op → Nat → ByteArray
  | f, [] => f
  | f, some x :: l => opsF (updF f x.1.toNat x.2) l
  | f, none :: l => opsF f l
theorem opsF_app : ∀ (l m : List Op) (f : Nat → ByteArray), opsF f (l ++ m) = opsF (opsF f l) m
  | [], m, f => rfl
  | some x :: l, m, f => opsF_app l m _
  | none :: l, m, f => opsF_app l m _
def OpsOk (n : Nat) (l : List Op) : Prop := ∀ y, some y ∈ l → 0 ≤ y.1 ∧ y.1 < (n : Int) ∧ y.2.size = 64
theorem runS_wet {n : Nat} : ∀ (l : List Op) {a : AD} {f : Nat → ByteArray}, a.Wet n f → OpsOk n l → (runS a l).2 = 0 ∧ (runS a l).1.Wet n (opsF f l)
  | [], a, f, h, _ => ⟨rfl, h⟩
  | some x :: l, a, f, h, ho => by
    obtain ⟨h0, h1, h2⟩ := ho x List.mem_cons_self
    have hp := h.put h0 h1 h2
    have e : runS a (some x :: l) = runS (a.write x.1 x.2) l := if_neg (fun hn => hn hp)
    rw [e]
    exact runS_wet l (h.write h0 h1 h2) fun y hy => ho y (List.mem_cons_of_mem _ hy)
  | none :: l, a, f, h, ho => by
    have e : runS a (none :: l) = runS a.flush l := if_neg (fun hn => hn h.on.flush1)
    rw [e]
    exact runS_wet l h.flush.wet fun y hy => ho y (List.mem_cons_of_mem _ hy)
theorem runS_app : ∀ (l m : List Op) {a : AD}, (runS a l).2 = 0 → runS a (l ++ m) = runS (runS a l).1 m
  | [], m, a, _ => rfl
  | some x :: l, m, a, h => by
    by_cases hp : a.put x.1 x.2 = 0
    · have e : ∀ k, runS a (some x :: k) = runS (a.write x.1 x.2) k := fun k => if_neg (fun hn => hn hp)
      rw [List.cons_append, e, e]
      rw [e] at h
      exact runS_app l m h
    · have e : ∀ k, runS a (some x :: k) = (a.write x.1 x.2, a.put x.1 x.2) := fun k => if_pos hp
      rw [e] at h; exact absurd h hp
  | none :: l, m, a, h => by
    by_cases hp : a.flush1 = 0
    · have e : ∀ k, runS a (none :: k) = runS a.flush k := fun k => if_neg (fun hn => hn hp)
      rw [List.cons_append, e, e]
      rw [e] at h
      exact runS_app l m h
    · have e : ∀ k, runS a (none :: k) = (a.flush, a.flush1) := fun k => if_pos hp
      rw [e] at h; exact absurd h hp
theorem runS_hold {n : Nat} {l : List Op} {a : AD} {f : Nat → ByteArray} (h : a.Wet n f) (ho : OpsOk n l) : (runS a (l ++ [none])).2 = 0 ∧ (runS a (l ++ [none])).1.Hold n (opsF f l) := by
  obtain ⟨h1, h2⟩ := runS_wet l h ho
  rw [runS_app l [none] h1]
  have e : runS (runS a l).1 [none] = ((runS a l).1.flush, 0) := if_neg (fun hn => hn h2.on.flush1)
  rw [e]; exact ⟨rfl, h2.flush⟩
/-- what a ring's slots are emptied to -/
def slotF (f : Nat → ByteArray) (n : Nat) : Nat → ByteArray := fun j => if 4 ≤ j ∧ (j - 4) % 41 = 0 ∧ (j - 4) / 41 < n then zS else f j
theorem slotOps_f (f : Nat → ByteArray) : ∀ n, opsF f (slotOps n) = slotF f n
  | 0 => by funext j; unfold slotF; rw [if_neg (by omega)]; rfl
  | n + 1 => by
    rw [slotOps_next, opsF_app, slotOps_f f n]
    show updF (slotF f n) (4 + 41 * (n : Int)).toNat zS = _
    funext j
    unfold updF slotF
    by_cases h : j = (4 + 41 * (n : Int)).toNat
    · rw [if_pos h, if_pos (by omega)]
    · rw [if_neg h]
      by_cases h2 : 4 ≤ j ∧ (j - 4) % 41 = 0 ∧ (j - 4) / 41 < n
      · rw [if_pos h2, if_pos (by omega)]
      · rw [if_neg h2, if_neg (by omega)]
theorem zS_size : zS.size = 64 := rfl
theorem slotOps_ok {n N : Nat} (h : 4 + 41 * n ≤ N) : OpsOk N (slotOps n) := by
  intro y hy
  obtain ⟨i, hi, e⟩ := List.mem_map.1 hy
  cases e
  have := List.mem_range.1 hi
  exact ⟨by omega, by show 4 + 41 * (i : Int) < N; omega, rfl⟩
def loadF (f : Nat → ByteArray) (at_ : Nat) (L : List (List UInt8)) (k : Nat) : Nat → ByteArray := fun j => if at_ + 1 ≤ j ∧ j < at_ + 1 + k then strB (L.getD (j - at_ - 1) []) else f j
theorem loadOps_f (f : Nat → ByteArray) (at_ : Nat) (L : List (List UInt8)) : ∀ k, opsF f (loadOps (at_ : Int) L k) = loadF f at_ L k
  | 0 => by funext j; unfold loadF; rw [if_neg (by omega)]; rfl
  | k + 1 => by
    show opsF f (loadOps (at_ : Int) L k ++ [_]) = _
    rw [opsF_app, loadOps_f f at_ L k]
    show updF (loadF f at_ L k) ((at_ : Int) + 1 + (k : Int)).toNat (strB (L.getD k [])) = _
    funext j
    unfold updF loadF
    by_cases h : j = ((at_ : Int) + 1 + (k : Int)).toNat
    · rw [if_pos h, if_pos (by omega), show j - at_ - 1 = k by omega]
    · rw [if_neg h]
      by_cases h2 : at_ + 1 ≤ j ∧ j < at_ + 1 + k
      · rw [if_pos h2, if_pos (by omega)]
      · rw [if_neg h2, if_neg (by omega)]
theorem loadOps_ok {at_ N : Nat} {L : List (List UInt8)} (hL : ∀ s ∈ L, s.length = 64) : ∀ {k : Nat}, k ≤ L.length → at_ + 1 + k ≤ N → OpsOk N (loadOps (at_ : Int) L k)
  | 0, _, _ => fun y hy => by simp [loadOps] at hy
  | k + 1, hk, hN => fun y hy => by
    have hy : some y ∈ loadOps (at_ : Int) L k ++ [some ((at_ : Int) + 1 + (k : Int), strB (L.getD k []))] := hy
    rcases List.mem_append.1 hy with hy | hy
    · exact loadOps_ok hL (by omega) (by omega) y hy
    · have e := Option.some.inj (List.mem_singleton.1 hy)
      subst e
      refine ⟨by show 0 ≤ (at_ : Int) + 1 + (k : Int); omega, by show (at_ : Int) + 1 + (k : Int) < N; omega, ?_⟩
      rw [strB_size, List.getD_eq_getElem?_getD, List.getElem?_eq_getElem (show k < L.length by omega)]
      exact hL _ (List.getElem_mem _)
end Go.Proofs.Ytbecjmfcppginaa
end
section
/-! ring: the record of a number; the records that are found. -/
namespace Go.Proofs.Ytbecjmfcppginaa
open Go.Sh Go.RowKit
set_option linter.unusedVariables false
set_option linter.unusedSimpArgs false
set_option maxRecDepth 20000
set_option maxHeartbeats 1000000
def ratF (S n : Nat) : Int := 4 + 41 * ((n % S : Nat) : Int)
def readsF (a : AD) (at_ : Int) (k : Nat) : List (List UInt8) := (List.range k).map fun (i : Nat) => (a.read (at_ + 1 + (i : Int))).1.data.toList
/-- the record of a number -/
def recF (a : AD) (S n : Nat) : RcV × Bool :=
  if (a.read (ratF S n)).2 ≠ 0 then (zRc, false)
  else if (decH (a.read (ratF S n)).1.data.toList).2 ≠ 0 ∨ (decH (a.read (ratF S n)).1.data.toList).1.1 ≠ n then (zRc, false)
  else if ∃ i, i < (decH (a.read (ratF S n)).1.data.toList).1.2.2.1.length ∧ (a.read (ratF S n + 1 + (i : Int))).2 ≠ 0 then (zRc, false)
  else ((decR (a.read (ratF S n)).1.data.toList (readsF a (ratF S n) (decH (a.read (ratF S n)).1.data.toList).1.2.2.1.length)).1, decide ((decR (a.read (ratF S n)).1.data.toList (readsF a (ratF S n) (decH (a.read (ratF S n)).1.data.toList).1.2.2.1.length)).2 = 0))
/-- the records from a number on -/
def recsF (a : AD) (S : Nat) : Nat → Nat → List RcV
  | 0, _ => []
  | k + 1, n => if (recF a S n).2 then (recF a S n).1 :: recsF a S k ((n + 1) % 2 ^ 64) else []
/-- a ring is opened: its trimmed number, or an error -/
def openF (a : AD) : Nat × Int :=
  if (a.read 3).2 ≠ 0 then (0, (a.read 3).2)
  else if (openB (a.read 3).1.data.toList).2 = false ∨ slotsN (a.safe.length : Int) = 0 then (0, 200)
  else if markB (leN (((openB (a.read 3).1.data.toList).1.drop 4).take 8)) ≠ (a.read 3).1.data.toList then (0, 200)
  else (leN (((openB (a.read 3).1.data.toList).1.drop 4).take 8), 0)
theorem recsF_le (a : AD) (S : Nat) : ∀ k n, (recsF a S k n).length ≤ k
  | 0, n => Nat.le_refl _
  | k + 1, n => by
    unfold recsF
    split
    · have := recsF_le a S k ((n + 1) % 2 ^ 64)
      rw [List.length_cons]; omega
    · exact Nat.zero_le _
end Go.Proofs.Ytbecjmfcppginaa
end
section
/-! ring: a ring on a drive, and what is found there. -/
namespace Go.Proofs.Ytbecjmfcppginaa
open Go.Sh Go.RowKit
set_option linter.unusedVariables false
set_option linter.unusedSimpArgs false
set_option maxRecDepth 20000
set_option maxHeartbeats 1000000
def ratN (S n : Nat) : Nat := 4 + 41 * (n % S)
theorem ratF_eq (S n : Nat) : ratF S n = (ratN S n : Int) := by unfold ratF ratN; omega
theorem ratN_lt {S n N : Nat} (h1 : 1 ≤ S) (hN : 4 + 41 * S ≤ N) : ratN S n + 41 ≤ N := by
  have := Nat.mod_lt n (show 0 < S by omega)
  unfold ratN; omega
/-- a record stands in its number's slot -/
def SlotIs (f : Nat → ByteArray) (S n : Nat) (row : Int) (l : List RP) : Prop :=
  f (ratN S n) = strB (headR n row l (sumR l)) ∧ ∀ j, j < l.length → f (ratN S n + 1 + j) = strB ((datas l).getD j [])
theorem readsF_slot {a : AD} {N : Nat} {f : Nat → ByteArray} {S n : Nat} {row : Int} {l : List RP} (h : a.Wet N f) (h1 : 1 ≤ S) (hN : 4 + 41 * S ≤ N) (hs : SlotIs f S n row l) (hl : l.length ≤ 40) : readsF a (ratF S n) l.length = datas l := by
  apply List.ext_getElem?; intro j
  unfold readsF
  have := ratN_lt (n := n) h1 hN
  by_cases hj : j < l.length
  · rw [List.getElem?_map, List.getElem?_range hj, List.getElem?_eq_getElem (by rw [datas_len]; exact hj)]
    simp only [Option.map_some]
    rw [ratF_eq, h.read (by omega) (by omega), show ((ratN S n : Int) + 1 + (j : Int)).toNat = ratN S n + 1 + j by omega, hs.2 j hj, List.getD_eq_getElem?_getD, List.getElem?_eq_getElem (by rw [datas_len]; exact hj)]
    rfl
  · rw [List.getElem?_eq_none (by rw [List.length_map, List.length_range]; omega), List.getElem?_eq_none (by rw [datas_len]; omega)]
theorem recF_good {a : AD} {N : Nat} {f : Nat → ByteArray} {S n : Nat} {row : Int} {l : List RP} (h : a.Wet N f) (h1 : 1 ≤ S) (hN : 4 + 41 * S ≤ N) (hn : n < 2 ^ 64) (hs : SlotIs f S n row l) (hP : PlacedR row l) (hL : LoadedR l) : recF a S n = ((n, row, l), true) := by
  have h40 := hP.2.2.2.1
  have hlt := ratN_lt (n := n) h1 hN
  have hr : a.read (ratF S n) = (strB (headR n row l (sumR l)), 0) := by rw [ratF_eq, h.read (by omega) (by omega), Int.toNat_natCast, hs.1]
  have hd := decH_headR (sum := sumR l) hn hP
  have eb : (strB (headR n row l (sumR l))).data.toList = headR n row l (sumR l) := rfl
  unfold recF
  rw [hr]
  simp only [eb, hd]
  have hb : (bare l).length = l.length := bare_len l
  rw [if_neg (by simp), if_neg (by simp), if_neg (fun ⟨i, hi, hx⟩ => hx (by
    rw [hb] at hi
    rw [ratF_eq, h.read (by omega) (by omega)])), hb, readsF_slot h h1 hN hs h40, decR_headR hn hP hL]
  rfl
theorem recF_none {a : AD} {N : Nat} {f : Nat → ByteArray} {S n : Nat} (h : a.Wet N f) (h1 : 1 ≤ S) (hN : 4 + 41 * S ≤ N) (ho : (decH (f (ratN S n)).data.toList).2 = 0 → (decH (f (ratN S n)).data.toList).1.1 ≠ n) : (recF a S n).2 = false := by
  have hlt := ratN_lt (n := n) h1 hN
  unfold recF
  rw [ratF_eq, h.read (by omega) (by omega), Int.toNat_natCast, if_neg (by simp)]
  by_cases h0 : (decH (f (ratN S n)).data.toList).2 = 0
  · rw [if_pos (Or.inr (ho h0))]
  · rw [if_pos (Or.inl h0)]
/-- a ring of S slots, trimmed at t, that has some records -/
structure RI (N S t : Nat) (recs : List (Int × List RP)) (f : Nat → ByteArray) : Prop where
  one : 1 ≤ S
  fit : 4 + 41 * S ≤ N
  small : t + 1000000 < 2 ^ 64
  sle : S ≤ 1000
  mark : f 3 = strB (markB t)
  len : recs.length ≤ S
  ok : ∀ x ∈ recs, PlacedR x.1 x.2 ∧ LoadedR x.2
  slot : ∀ i x, recs[i]? = some x → SlotIs f S (t + 1 + i) x.1 x.2
  old : ∀ s, s < S → (decH (f (4 + 41 * s)).data.toList).2 = 0 → (decH (f (4 + 41 * s)).data.toList).1.1 < t + 1 + recs.length
/-- records with their numbers -/
def numb : Nat → List (Int × List RP) → List RcV
  | _, [] => []
  | n, x :: l => (n, x.1, x.2) :: numb (n + 1) l
theorem numb_len : ∀ (l : List (Int × List RP)) (n : Nat), (numb n l).length = l.length
  | [], n => rfl
  | x :: l, n => by unfold numb; rw [List.length_cons, List.length_cons, numb_len l]
theorem numb_get : ∀ (l : List (Int × List RP)) (n i : Nat), (numb n l)[i]? = (l[i]?).map fun x => (n + i, x.1, x.2)
  | [], n, i => by simp [numb]
  | x :: l, n, 0 => rfl
  | x :: l, n, i + 1 => by
    unfold numb
    rw [List.getElem?_cons_succ, List.getElem?_cons_succ, numb_get l (n + 1) i, show n + 1 + i = n + (i + 1) by omega]
theorem RI.next {N S t : Nat} {recs : List (Int × List RP)} {f : Nat → ByteArray} (h : RI N S t recs f) {a : AD} (ha : a.Wet N f) : ∀ (k i : Nat), i ≤ recs.length → k + i = S → recsF a S k (t + 1 + i) = (numb (t + 1 + i) (recs.drop i))
  | 0, i, hi, hk => by
    have hl := h.len
    have : recs.drop i = [] := List.drop_eq_nil_of_le (by omega)
    rw [this]; rfl
  | k + 1, i, hi, hk => by
    have hsm := h.small
    have hsl := h.sle
    have hl := h.len
    unfold recsF
    by_cases hlt : i < recs.length
    · obtain ⟨hP, hL⟩ := h.ok recs[i] (List.getElem_mem hlt)
      have hg := recF_good ha h.one h.fit (show t + 1 + i < 2 ^ 64 by omega) (h.slot i recs[i] (List.getElem?_eq_getElem hlt)) hP hL
      rw [hg, if_pos rfl, Nat.mod_eq_of_lt (by omega), show t + 1 + i + 1 = t + 1 + (i + 1) by omega, h.next ha k (i + 1) (by omega) (by omega), List.drop_eq_getElem_cons hlt]
      rfl
    · have hn := recF_none (n := t + 1 + i) ha h.one h.fit fun h0 => by
        have := h.old ((t + 1 + i) % S) (Nat.mod_lt _ (by have := h.one; omega)) h0
        show (decH (f (4 + 41 * ((t + 1 + i) % S))).data.toList).1.1 ≠ _
        omega
      rw [hn, if_neg (by decide), List.drop_eq_nil_of_le (by omega)]; rfl
theorem RI.found {N S t : Nat} {recs : List (Int × List RP)} {f : Nat → ByteArray} (h : RI N S t recs f) {a : AD} (ha : a.Wet N f) : recsF a S S (t + 1) = numb (t + 1) recs := h.next ha S 0 (Nat.zero_le _) rfl
theorem RI.opened {N S t : Nat} {recs : List (Int × List RP)} {f : Nat → ByteArray} (h : RI N S t recs f) {a : AD} (ha : a.Wet N f) (hS : slotsN (N : Int) = (S : Int)) : openF a = (t, 0) := by
  have h1 := h.one
  have h2 := h.fit
  have h3 := h.small
  have hr : a.read 3 = (strB (markB t), 0) := by rw [ha.read (by omega) (by omega)]; exact congrArg (fun x => (x, (0 : Int))) h.mark
  have eb : (strB (markB t)).data.toList = markB t := rfl
  unfold openF
  rw [hr, eb]
  have hd := mark_dec (n := t) (by omega)
  have ho : (openB (markB t)).2 = true := by rw [mark_open]
  rw [hd, ha.on.len, hS, if_neg (by simp), if_neg (by rw [ho]; simp; omega), if_neg (by simp)]
/-- two numbers that are near have different slots -/
theorem slots_apart {S x y : Nat} (h1 : 1 ≤ S) (hlt : x < y) (hS : y < x + S) : x % S ≠ y % S := by
  intro e
  have h := Nat.sub_mod_eq_zero_of_mod_eq e.symm
  have : (y - x) % S = y - x := Nat.mod_eq_of_lt (by omega)
  omega
theorem SlotIs.congr {f g : Nat → ByteArray} {S n : Nat} {row : Int} {l : List RP} (h : SlotIs f S n row l) (hl : l.length ≤ 40) (e : ∀ j, ratN S n ≤ j → j ≤ ratN S n + 40 → g j = f j) : SlotIs g S n row l := by
  refine ⟨by rw [e _ (Nat.le_refl _) (by omega)]; exact h.1, fun j hj => by rw [e _ (by omega) (by omega)]; exact h.2 j hj⟩
/-- what Append leaves -/
def appF (f : Nat → ByteArray) (S n : Nat) (row : Int) (l : List RP) : Nat → ByteArray := updF (loadF f (ratN S n) (datas l) l.length) (ratN S n) (strB (headR n row l (sumR l)))
theorem appOps_f (f : Nat → ByteArray) (S n : Nat) (row : Int) (l : List RP) : ∀ m, m = [none, some (4 + 41 * ((n % S : Nat) : Int), strB (headR n row l (sumR l)))] → opsF f (loadOps (4 + 41 * ((n % S : Nat) : Int)) (datas l) l.length ++ m) = appF f S n row l := by
  rintro m rfl
  have e : (4 + 41 * ((n % S : Nat) : Int)) = (ratN S n : Int) := by unfold ratN; omega
  rw [e, opsF_app, loadOps_f]
  show updF (loadF f (ratN S n) (datas l) l.length) ((ratN S n : Int)).toNat _ = _
  rw [Int.toNat_natCast]; rfl
theorem RI.loads {N S t : Nat} {recs : List (Int × List RP)} {f : Nat → ByteArray} (h : RI N S t recs f) (hlt : recs.length < S) {l : List RP} (hl : l.length ≤ 40) : RI N S t recs (loadF f (ratN S (t + 1 + recs.length)) (datas l) l.length) := by
  have keep : ∀ s, s < S → loadF f (ratN S (t + 1 + recs.length)) (datas l) l.length (4 + 41 * s) = f (4 + 41 * s) := fun s hs => by
    unfold loadF; rw [if_neg (by unfold ratN; omega)]
  refine ⟨h.one, h.fit, h.small, h.sle, ?_, h.len, h.ok, fun i x hx => ?_, fun s hs => ?_⟩
  · unfold loadF; rw [if_neg (by unfold ratN; omega)]; exact h.mark
  · have hi : i < recs.length := (List.getElem?_eq_some_iff.1 hx).1
    refine (h.slot i x hx).congr (h.ok x (List.mem_of_getElem? hx)).1.2.2.2.1 fun j h1 h2 => ?_
    have hap := slots_apart (S := S) (x := t + 1 + i) (y := t + 1 + recs.length) h.one (by omega) (by omega)
    unfold loadF; unfold ratN at h1 h2 ⊢; rw [if_neg (by omega)]
  · rw [keep s hs]; exact h.old s hs
theorem RI.append {N S t : Nat} {recs : List (Int × List RP)} {f : Nat → ByteArray} (h : RI N S t recs f) (hlt : recs.length < S) {row : Int} {l : List RP} (hP : PlacedR row l) (hL : LoadedR l) : RI N S t (recs ++ [(row, l)]) (appF f S (t + 1 + recs.length) row l) := by
  have h40 := hP.2.2.2.1
  have hsm := h.small
  have hsl := h.sle
  have hl := h.loads hlt (l := l) h40
  refine ⟨h.one, h.fit, h.small, h.sle, ?_, by rw [List.length_append]; exact hlt, fun x hx => ?_, fun i x hx => ?_, fun s hs => ?_⟩
  · show updF _ _ _ 3 = _
    unfold updF; rw [if_neg (by unfold ratN; omega)]; exact hl.mark
  · rcases List.mem_append.1 hx with hx | hx
    · exact h.ok x hx
    · rw [List.mem_singleton.1 hx]; exact ⟨hP, hL⟩
  · by_cases hi : i < recs.length
    · rw [List.getElem?_append_left hi] at hx
      refine (hl.slot i x hx).congr (h.ok x (List.mem_of_getElem? hx)).1.2.2.2.1 fun j h1 h2 => ?_
      have hap := slots_apart (S := S) (x := t + 1 + i) (y := t + 1 + recs.length) h.one (by omega) (by omega)
      show updF _ _ _ j = _
      unfold updF; unfold ratN at h1 h2 ⊢; rw [if_neg (by omega)]
    · have hie : i = recs.length := by
        have := (List.getElem?_eq_some_iff.1 hx).1
        rw [List.length_append, List.length_singleton] at this; omega
      subst hie
      rw [List.getElem?_append_right (Nat.le_refl _), Nat.sub_self] at hx
      obtain rfl : (row, l) = x := by simpa using hx
      refine ⟨?_, fun j hj => ?_⟩
      · show updF _ _ _ _ = _
        unfold updF; rw [if_pos rfl]
      · show updF _ _ _ _ = _
        have hj : j < l.length := hj
        unfold updF; rw [if_neg (by omega)]
        unfold loadF; rw [if_pos (by omega), show ratN S (t + 1 + recs.length) + 1 + j - ratN S (t + 1 + recs.length) - 1 = j by omega]
  · rw [List.length_append, List.length_singleton]
    show (decH (updF _ _ _ (4 + 41 * s)).data.toList).2 = 0 → (decH (updF _ _ _ (4 + 41 * s)).data.toList).1.1 < _
    unfold updF
    split
    · intro _
      have eb : (strB (headR (t + 1 + recs.length) row l (sumR l))).data.toList = headR (t + 1 + recs.length) row l (sumR l) := rfl
      rw [eb, decH_headR (by omega) hP]
      show t + 1 + recs.length < _
      omega
    · intro h0
      have := hl.old s hs h0
      omega
theorem RI.trim {N S t : Nat} {recs : List (Int × List RP)} {f : Nat → ByteArray} (h : RI N S t recs f) {m : Nat} (hm : m ≤ recs.length) (hsm : t + m + 1000000 < 2 ^ 64) : RI N S (t + m) (recs.drop m) (updF f 3 (strB (markB (t + m)))) := by
  have keep : ∀ j, 4 ≤ j → updF f 3 (strB (markB (t + m))) j = f j := fun j hj => by unfold updF; rw [if_neg (by omega)]
  refine ⟨h.one, h.fit, hsm, h.sle, by unfold updF; rw [if_pos rfl], by rw [List.length_drop]; have := h.len; omega, fun x hx => h.ok x (List.mem_of_mem_drop hx), fun i x hx => ?_, fun s hs => ?_⟩
  · rw [List.getElem?_drop] at hx
    have := h.slot (m + i) x hx
    rw [show t + m + 1 + i = t + 1 + (m + i) by omega]
    exact this.congr (h.ok x (List.mem_of_getElem? hx)).1.2.2.2.1 fun j h1 h2 => keep j (by unfold ratN at h1; omega)
  · rw [keep _ (by omega), List.length_drop]
    intro h0
    have := h.old s hs h0
    omega
/-- a ring that is made anew -/
theorem RI.made {N S : Nat} {f : Nat → ByteArray} (h1 : 1 ≤ S) (hS : S ≤ 1000) (hN : 4 + 41 * S ≤ N) : RI N S 0 [] (updF (slotF f S) 3 (strB (markB 0))) := by
  refine ⟨h1, hN, by decide, hS, by unfold updF; rw [if_pos rfl], Nat.zero_le _, fun x hx => by simp at hx, fun i x hx => by simp at hx, fun s hs h0 => ?_⟩
  exfalso
  have e : updF (slotF f S) 3 (strB (markB 0)) (4 + 41 * s) = zS := by
    unfold updF slotF; rw [if_neg (by omega), if_pos (by omega)]
  rw [e] at h0
  exact zero_head h0
end Go.Proofs.Ytbecjmfcppginaa
end
section
/-! Many drives, and many of the reference's. -/
namespace Go.Proofs.Ytbecjmfcppginaa
open Go.Sh Go.RowKit
set_option linter.unusedVariables false
set_option linter.unusedSimpArgs false
set_option maxRecDepth 20000
set_option maxHeartbeats 1000000
def drK (p : Nat) (a : AD) : Kd := fun Y => ∃ D, D.p = p ∧ Abs D a ∧ Y = drvL D
section
variable {p q : Nat} {a : AD} {F : List Nat} {w0 w : World} {X : List A}
theorem Dr.ow (h : Dr p a F w0 w X) : Ow (drK p a) F w0 w X := by
  obtain ⟨D, h1, h2, hT⟩ := h
  exact ⟨_, ⟨D, h1, h2, rfl⟩, hT⟩
theorem Ow.dr (h : Ow (drK p a) F w0 w X) : Dr p a F w0 w X := by
  obtain ⟨Y, ⟨D, h1, h2, rfl⟩, hT⟩ := h
  exact ⟨D, h1, h2, hT⟩
end
/-- a drive, or none -/
abbrev Od := Option (Nat × AD)
def odK : Od → Kd
  | none => noK
  | some x => drK x.1 x.2
abbrev dsK (l : List Od) : Kd := allK odK l
def odV (x : Od) : Value := .pointer (x.map fun y => ⟨y.1, 0, none⟩)
def dptrs (l : List Od) : List Value := l.map odV
theorem dptrs_len (l : List Od) : (dptrs l).length = l.length := List.length_map ..
theorem dptrs_get {l : List Od} {k : Nat} {x : Od} (h : l[k]? = some x) : (dptrs l)[k]? = some (odV x) := by simp [dptrs, h]
section
variable {l : List Od} {k p : Nat} {a : AD} {F : List Nat} {w0 w : World} {X : List A}
/-- one drive of many -/
theorem Ow.drive (H : Ow (dsK l) F w0 w X) (hk : l[k]? = some (some (p, a))) : ∃ Z, Dr p a F w0 w (X ++ Z) ∧ ∀ {a' : AD} {F' : List Nat} {w0' w' : World} {X' : List A}, Dr p a' F' w0' w' (X' ++ Z) → Ow (dsK (l.set k (some (p, a')))) F' w0' w' X' := by
  obtain ⟨Z, h1, h2⟩ := Ow.at hk H
  exact ⟨Z, Ow.dr h1, fun {a' F' w0' w' X'} h' => h2 (x' := some (p, a')) (Dr.ow h')⟩
theorem set_get_same {α : Type} {l : List α} {k : Nat} {x : α} (h : l[k]? = some x) : l.set k x = l := by
  obtain ⟨hk, he⟩ := List.getElem?_eq_some_iff.1 h
  rw [← he, List.set_getElem_self]
/-- a call on one drive of many -/
theorem Ow.onDrive {P : Program} {f : FuncId} {args : Array Value} {v : Value} {b : AD} (H : Ow (dsK l) F w0 w X) (hk : l[k]? = some (some (p, a)))
    (hc : ∀ Z, Dr p a F w0 w (X ++ Z) → Calls P f args w fun e w' => e = .returned v ∧ Dr p b F w0 w' (X ++ Z)) : Calls P f args w fun e w' => e = .returned v ∧ Ow (dsK (l.set k (some (p, b)))) F w0 w' X := by
  obtain ⟨Z, h1, h2⟩ := Ow.drive H hk
  exact (hc Z h1).mono fun e w' ⟨he, h'⟩ => ⟨he, h2 h'⟩
end
theorem getD_mem_or {α : Type} (l : List α) (j : Nat) (d : α) : l.getD j d ∈ l ∨ l.getD j d = d := by
  by_cases h : j < l.length
  · exact .inl (by simp [List.getD, h])
  · exact .inr (by simp [List.getD, List.getElem?_eq_none (Nat.le_of_not_lt h)])
/-- what a drive holds is no longer than a sector -/
theorem Dr.top_size {p : Nat} {a : AD} {F : List Nat} {w0 w : World} {X : List A} (h : Dr p a F w0 w X) (i : Nat) : (a.top i).size ≤ 64 := by
  obtain ⟨D, _, hA, _⟩ := h
  have hs : ∀ s ∈ a.safe, s.size = 64 := by rw [← hA.safe]; exact hA.ok.s64
  have hp : ∀ s ∈ a.pend i, s.size = 64 := by
    rw [← hA.pend i]
    unfold pendW
    cases hf : D.ws.find? fun e => e.k == (i : Int) with
    | none => intro s hs; cases hs
    | some e => exact hA.ok.w64 e (List.mem_of_find?_eq_some hf)
  unfold AD.top
  split
  · rename_i s he
    have := hp s (List.mem_of_getLast? he)
    omega
  · rcases getD_mem_or a.safe i noB with h | h
    · have := hs _ h; omega
    · rw [h]; show 0 ≤ 64; omega
theorem Dr.read_size {p : Nat} {a : AD} {F : List Nat} {w0 w : World} {X : List A} (h : Dr p a F w0 w X) (i : Int) : (a.read i).1.size ≤ 64 := by
  unfold AD.read
  split
  · show 0 ≤ 64; omega
  · split
    · show 0 ≤ 64; omega
    · exact h.top_size _
/-- pointers to blocks, or to none -/
def pv (x : Option Nat) : Value := .pointer (ptr x)
def ptrsV (ps : List (Option Nat)) : List Value := ps.map pv
theorem ptrsV_get {ps : List (Option Nat)} {k : Nat} {x : Option Nat} (h : ps[k]? = some x) : (ptrsV ps)[k]? = some (pv x) := by simp [ptrsV, h]
theorem ptrsV_len (ps : List (Option Nat)) : (ptrsV ps).length = ps.length := List.length_map ..
def odB (x : Od) : Option Nat := x.map fun y => y.1
/-- the blocks of drives -/
def blks (l : List Od) : List (Option Nat) := l.map odB
theorem blks_len (l : List Od) : (blks l).length = l.length := List.length_map ..
theorem blks_get {l : List Od} {k : Nat} {x : Od} (h : l[k]? = some x) : (blks l)[k]? = some (odB x) := by simp [blks, h]
theorem blks_set {l : List Od} {k p : Nat} {a b : AD} (h : l[k]? = some (some (p, a))) : blks (l.set k (some (p, b))) = blks l := by
  unfold blks
  rw [List.map_set]
  exact set_get_same (by simp [h, odB])
/-- a pointer of a row of them -/
theorem Ow.pcell {h : Kd} {F : List Nat} {w0 w : World} {X : List A} {t : TypeId} {g : Option Nat} {n cap : Nat} {ps : List (Option Nat)} (H : Ow h F w0 w X) (hm : rowP t 1 g n cap (ptrsV ps) ∈ X) {k : Nat} (hk : k < ps.length) : ∃ b, g = some b ∧ w.cell? (Addr.add ⟨b, 0, none⟩ (k * 1)) = some (.pointer (ptr (ps.getD k none))) := by
  have hs := H.under.says hm
  have hl : (ptrsV ps).length = n * 1 := rowP.len hs
  rw [ptrsV_len] at hl
  obtain ⟨b, rfl⟩ := rowP.pos hs (by omega)
  refine ⟨b, rfl, ?_⟩
  rw [addr_add, Nat.zero_add, Nat.mul_one]
  have : ps[k]? = some (ps.getD k none) := by simp [List.getD, hk]
  exact rowP.cell hs (ptrsV_get this)
/-- few writes are pending on each -/
def FewL (l : List Od) (N : Nat) : Prop := ∀ q a, some (q, a) ∈ l → a.Few N
theorem FewL.mono {l : List Od} {N M : Nat} (h : FewL l N) (hm : N ≤ M) : FewL l M := fun q a hq => (h q a hq).mono hm
theorem T.pcell {F : List Nat} {w0 w : World} {X : List A} {t : TypeId} {b n cap : Nat} {ps : List (Option Nat)} (H : T F w0 w X) (hm : rowP t 1 (some b) n cap (ptrsV ps) ∈ X) {k : Nat} (hk : k < ps.length) : w.cell? (Addr.add ⟨b, 0, none⟩ (k * 1)) = some (.pointer (ptr (ps.getD k none))) := by
  rw [addr_add, Nat.zero_add, Nat.mul_one]
  have : ps[k]? = some (ps.getD k none) := by simp [List.getD, hk]
  exact rowP.cell (H.says hm) (ptrsV_get this)
section
variable {P : Program} {f : FuncId} {args : Array Value} {v : Value} {g : Kd} {F : List Nat} {w0 w : World} {X : List A} {l l' : List Od} {k p : Nat} {a b : AD}
/-- a call on the first kind of two -/
theorem Ow.onFst {h h' : Kd} (H : Ow (star h g) F w0 w X) (hc : ∀ Z, Ow h F w0 w (X ++ Z) → Calls P f args w fun e w' => e = .returned v ∧ Ow h' F w0 w' (X ++ Z)) : Calls P f args w fun e w' => e = .returned v ∧ Ow (star h' g) F w0 w' X := by
  obtain ⟨Z, hZ, h1, h2⟩ := Ow.lend H
  exact (hc Z h1).mono fun e w' ⟨he, h3⟩ => ⟨he, h2 h3⟩
theorem Ow.onSnd {h h' : Kd} (H : Ow (star g h) F w0 w X) (hc : ∀ Z, Ow h F w0 w (X ++ Z) → Calls P f args w fun e w' => e = .returned v ∧ Ow h' F w0 w' (X ++ Z)) : Calls P f args w fun e w' => e = .returned v ∧ Ow (star g h') F w0 w' X :=
  (Ow.onFst H.flip hc).mono fun e w' ⟨he, h3⟩ => ⟨he, h3.flip⟩
theorem Ow.onD (H : Ow (star (dsK l) g) F w0 w X) (hk : l[k]? = some (some (p, a))) (hc : ∀ Z, Dr p a F w0 w (X ++ Z) → Calls P f args w fun e w' => e = .returned v ∧ Dr p b F w0 w' (X ++ Z)) : Calls P f args w fun e w' => e = .returned v ∧ Ow (star (dsK (l.set k (some (p, b)))) g) F w0 w' X :=
  Ow.onFst H fun Z hZ => Ow.onDrive hZ hk fun Z' hZ' => by
    rw [List.append_assoc] at hZ' ⊢
    exact hc (Z ++ Z') hZ'
end
/-- how drives stand, whichever they are -/
def adO (x : Od) : Option AD := x.map fun y => y.2
def ads (l : List Od) : List (Option AD) := l.map adO
theorem ads_get {l m : List Od} (h : ads l = ads m) {k p : Nat} {a : AD} (hk : l[k]? = some (some (p, a))) : ∃ q, m[k]? = some (some (q, a)) := by
  have h1 : (ads l)[k]? = some (some a) := by simp [ads, hk, adO]
  rw [h] at h1
  unfold ads at h1
  rw [List.getElem?_map] at h1
  cases hx : m[k]? with
  | none => rw [hx] at h1; cases h1
  | some x =>
    rw [hx] at h1
    cases x with
    | none => cases h1
    | some y =>
      have : y.2 = a := by simpa [adO] using h1
      exact ⟨y.1, by rw [← this]⟩
theorem ads_set {l m : List Od} (h : ads l = ads m) {k p q : Nat} {a : AD} : ads (l.set k (some (p, a))) = ads (m.set k (some (q, a))) := by
  unfold ads at *
  rw [List.map_set, List.map_set, h]; rfl
theorem ads_len {l m : List Od} (h : ads l = ads m) : l.length = m.length := by
  have := congrArg List.length h
  simpa [ads] using this
theorem FewL.ads {l m : List Od} {N : Nat} (h : ads l = ads m) (hF : FewL l N) : FewL m N := fun q a hm => by
  obtain ⟨k, hk, he⟩ := List.getElem_of_mem hm
  obtain ⟨p, hp⟩ := ads_get h.symm (k := k) (p := q) (a := a) (by rw [List.getElem?_eq_getElem hk, he])
  exact hF p a (List.mem_of_getElem? hp)
theorem FewL.set {l : List Od} {N : Nat} (h : FewL l N) {k p : Nat} {a : AD} (ha : a.Few N) : FewL (l.set k (some (p, a))) N := fun q b hm => by
  rcases List.mem_or_eq_of_mem_set hm with hm | hm
  · exact h q b hm
  · simp at hm
    rw [hm.2]; exact ha
section
variable {h g : Kd} {F : List Nat} {w0 w : World} {X : List A} {l : List Od} {q : Nat} {a : AD}
theorem Ow.newD {n : Nat} (H : Ow h F w0 w X) (hn : 1 ≤ n ∧ n ≤ 4096) {Φ : Ending → World → Prop} (hk : ∀ q w', Ow (star (drK q (AD.new n)) h) F w0 w' X → Φ (.returned (.pointer (some ⟨q, 0, none⟩))) w') : Calls Try.prog 9 #[.int .i64 n] w Φ := by
  obtain ⟨Y, hY, hT⟩ := H
  refine new_u hT hn fun q w' h' => hk q w' ?_
  exact Ow.join hY (Dr.ow h')
theorem Ow.assoc {k : Kd} (H : Ow (star k (star h g)) F w0 w X) : Ow (star (star k h) g) F w0 w X := by
  obtain ⟨Y, ⟨Y1, Y2, h1, ⟨Y3, Y4, h2, h3, rfl⟩, rfl⟩, hT⟩ := H
  exact ⟨_, ⟨Y1 ++ Y3, Y4, ⟨Y1, Y3, h1, h2, rfl⟩, h3, rfl⟩, by rw [List.append_assoc Y1 Y3 Y4]; exact hT⟩
theorem Ow.inFst {h' : Kd} (H : Ow (star h g) F w0 w X) (hi : ∀ {X : List A}, Ow h F w0 w X → Ow h' F w0 w X) : Ow (star h' g) F w0 w X := by
  obtain ⟨Z, hZ, h1, h2⟩ := Ow.lend H
  exact h2 (hi h1)
theorem Ow.inSnd {h' : Kd} (H : Ow (star g h) F w0 w X) (hi : ∀ {X : List A}, Ow h F w0 w X → Ow h' F w0 w X) : Ow (star g h') F w0 w X := (Ow.inFst H.flip hi).flip
theorem Ow.addD (H : Ow (star (drK q a) (star (dsK l) g)) F w0 w X) : Ow (star (dsK (l ++ [some (q, a)])) g) F w0 w X :=
  Ow.inFst (Ow.assoc H) fun h => Ow.snoc (f := odK) (x := some (q, a)) h
theorem Ow.addDN (H : Ow (star (dsK l) g) F w0 w X) : Ow (star (dsK (l ++ [none])) g) F w0 w X :=
  Ow.inFst H fun h => by
    refine Ow.snoc (f := odK) (x := none) ?_
    obtain ⟨Y, hY, hT⟩ := h
    exact ⟨Y, ⟨[], Y, rfl, hY, rfl⟩, hT⟩
end
theorem blks_snoc (l : List Od) (x : Od) : ptrsV (blks (l ++ [x])) = ptrsV (blks l) ++ [odV x] := by
  cases x <;> simp [ptrsV, blks, odB, pv, odV]
theorem ads_snoc (l : List Od) (x : Od) : ads (l ++ [x]) = ads l ++ [adO x] := by simp [ads]
end Go.Proofs.Ytbecjmfcppginaa
end
