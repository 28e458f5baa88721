import Derived.Test.YtedbbdeeofdepaaGreatDoorM2
import Derived.Test.YtedbbdeeofdepaaGreatDoorM6
section
/-! A drive that holds texts, all of them safe; what is done beside a drive. -/
namespace Go.Proofs.YtedbbdeeofdepaaGreatDoor
open Go.Sh Go.RowKit
set_option linter.unusedVariables false
set_option linter.unusedSimpArgs false
set_option maxRecDepth 20000
set_option maxHeartbeats 1000000
theorem read_on {a : AD} {n : Nat} (h : a.On n) {i : Int} (hi : 0 ≤ i ∧ i < (n : Int)) : a.read i = if a.spoilt i.toNat then (noB, 41) else (a.top i.toNat, 0) := AD.read_of (h.may hi)
/-- nothing is pending, nothing is spoilt -/
structure AD.Hold (a : AD) (n : Nat) (f : Nat → ByteArray) : Prop where
  on : a.On n
  pend : ∀ j, a.pend j = []
  sp : ∀ j, a.spoilt j = false
  safe : ∀ j, j < n → a.safe.getD j noB = f j
theorem AD.Hold.few {a : AD} {n : Nat} {f : Nat → ByteArray} (h : a.Hold n f) (N : Nat) : a.Few N := fun j => by rw [h.pend]; exact Nat.zero_le _
theorem AD.Hold.read {a : AD} {n : Nat} {f : Nat → ByteArray} (h : a.Hold n f) {i : Nat} (hi : i < n) : a.read (i : Int) = (f i, 0) := by
  rw [read_on h.on (by omega), Int.toNat_natCast, if_neg (by rw [h.sp]; decide), AD.top_none (h.pend i), h.safe i hi]
theorem hold_new (n : Nat) : (AD.new n).Hold n fun _ => zeroSec := ⟨AD.On.new n, fun _ => rfl, fun _ => rfl, fun j hj => by
  show (List.replicate n zeroSec).getD j noB = zeroSec
  simp [List.getD, hj]⟩
theorem AD.Hold.change {a : AD} {n : Nat} {f : Nat → ByteArray} (h : a.Hold n f) {i : Nat} (hi : i < n) {s : ByteArray} (hs : s.size = 64) : (a.change (i : Int) s).Hold n fun j => if j = i then s else f j := by
  have hp := h.on.put (i := (i : Int)) (by omega) hs
  refine ⟨h.on.change _ _, fun j => ?_, fun j => ?_, fun j hj => ?_⟩ <;> rw [AD.change_of hp]
  · show (if j = (i : Int).toNat then [] else a.pend j) = []
    rw [h.pend]; split <;> rfl
  · exact h.sp j
  · show (a.safe.set (i : Int).toNat s).getD j noB = _
    have hl := h.on.len
    rw [Int.toNat_natCast, List.getD_eq_getElem?_getD, List.getElem?_set]
    by_cases e : i = j
    · subst e; rw [if_pos rfl, if_pos (by omega), if_pos rfl]; rfl
    · rw [if_neg e, if_neg (fun e' => e e'.symm), ← h.safe j hj, List.getD_eq_getElem?_getD]
theorem AD.Hold.few_write {a : AD} {n : Nat} {f : Nat → ByteArray} (h : a.Hold n f) (i : Int) (s : ByteArray) : (a.write i s).Few 1000000 := ((h.few 0).write i s).mono (by decide)
theorem AD.Hold.save {a : AD} {n : Nat} {f : Nat → ByteArray} (h : a.Hold n f) {i : Nat} (hi : i < n) {s : ByteArray} (hs : s.size = 64) : ((a.write (i : Int) s).flush).Hold n fun j => if j = i then s else f j := by
  have hp := h.on.put (i := (i : Int)) (by omega) hs
  have how := h.on.write (i : Int) s
  refine ⟨how.flush, fun j => ?_, fun j => ?_, fun j hj => ?_⟩ <;> rw [AD.flush_of how.flush1]
  · rfl
  · show (a.write (i : Int) s).spoilt j = false
    rw [AD.write_of hp]
    show (if j = (i : Int).toNat then false else a.spoilt j) = false
    rw [h.sp]; split <;> rfl
  · show (keptFrom (fun _ m => m) (a.write (i : Int) s).pend 0 0 (a.write (i : Int) s).safe).getD j noB = _
    obtain ⟨k', hk⟩ := keptFrom_get (fun _ m => m) (a.write (i : Int) s).pend noB (a.write (i : Int) s).safe 0 0 j (by rw [how.len]; exact hj)
    rw [hk, Nat.zero_add, AD.write_of hp]
    simp only [Int.toNat_natCast]
    by_cases e : j = i
    · subst e
      simp [h.pend]
    · rw [if_neg e, if_pos (h.pend j), if_neg e]
      exact h.safe j hj
theorem AD.Hold.crash {a : AD} {n : Nat} {f : Nat → ByteArray} (h : a.Hold n f) {i : Nat} (hi : i < n) {s : ByteArray} (hs : s.size = 64) (keep : List UInt8) : ∃ q : Bool, ((a.write (i : Int) s).crash keep).Hold n fun j => if j = i ∧ q = true then s else f j := by
  have hp := h.on.put (i := (i : Int)) (by omega) hs
  have how := h.on.write (i : Int) s
  have hsafe : (a.write (i : Int) s).safe = a.safe := by rw [AD.write_of hp]
  have hpend : ∀ j, (a.write (i : Int) s).pend j = if j = i then [s] else [] := fun j => by
    rw [AD.write_of hp]
    show (if j = (i : Int).toNat then a.pend j ++ [s] else a.pend j) = _
    rw [h.pend, Int.toNat_natCast]; rfl
  have hsp : ∀ j, (a.write (i : Int) s).spoilt j = false := fun j => by
    rw [AD.write_of hp]
    show (if j = (i : Int).toNat then false else a.spoilt j) = false
    rw [h.sp]; split <;> rfl
  obtain ⟨k0, hk0⟩ := keptFrom_get (keepG keep) (a.write (i : Int) s).pend noB (a.write (i : Int) s).safe 0 0 i (by rw [how.len]; exact hi)
  refine ⟨decide (0 < keepG keep k0 1), ⟨how.dead, rfl, ?_⟩, fun j => rfl, hsp, fun j hj => ?_⟩
  · show (keptFrom (keepG keep) (a.write (i : Int) s).pend 0 0 (a.write (i : Int) s).safe).length = n
    rw [keptFrom_len, how.len]
  · show (keptFrom (keepG keep) (a.write (i : Int) s).pend 0 0 (a.write (i : Int) s).safe).getD j noB = _
    by_cases e : j = i
    · subst e
      rw [hk0, Nat.zero_add, hpend, if_pos rfl, if_neg (by simp)]
      have hle := keepG_le keep k0 1
      by_cases hg : 0 < keepG keep k0 1
      · have h1 : keepG keep k0 1 = 1 := by omega
        simp [h1]
      · simp only [List.length_singleton, if_neg hg]
        rw [if_neg (by simp [hg]), hsafe, h.safe j hj]
    · obtain ⟨k', hk⟩ := keptFrom_get (keepG keep) (a.write (i : Int) s).pend noB (a.write (i : Int) s).safe 0 0 j (by rw [how.len]; exact hj)
      rw [hk, Nat.zero_add, hpend, if_neg e, if_pos rfl, hsafe, h.safe j hj, if_neg (fun h => e h.1)]
theorem Dr.alloc {p : Nat} {a : AD} {F : List Nat} {w0 w : World} {X : List A} (h : Dr p a F w0 w X) {c : Array Value} {t : TypeId} {K : Nat → World → Prop} (hK : ∀ b w', Dr p a F w0 w' (blk b c t :: X) → K b w') : Alloc c t w K := by
  obtain ⟨D, h1, h2, hT⟩ := h
  refine Alloc.t hT fun b w' hT' => hK b w' ⟨D, h1, h2, ?_⟩
  first
    | exact hT'
    | exact hT'.swap List.perm_middle.symm
theorem drew_dr {p : Nat} {a : AD} {F : List Nat} {w0 w : World} {X : List A} (h : Dr p a F w0 w X) : Dr p a F w0 w.drew X := by
  obtain ⟨D, h1, h2, hT⟩ := h
  exact ⟨D, h1, h2, hT.drew⟩
section
variable {p : Nat} {a : AD} {F : List Nat} {w0 w : World} {X : List A}
theorem Dr.perm {X' : List A} (h : Dr p a F w0 w X) (hp : X.Perm X') : Dr p a F w0 w X' := by
  obtain ⟨D, h1, h2, hT⟩ := h
  exact ⟨D, h1, h2, hT.swap (hp.append_right _)⟩
theorem Dr.dropX {y : A} (h : Dr p a F w0 w (y :: X)) : Dr p a F w0 w X := by
  obtain ⟨D, h1, h2, hT⟩ := h
  exact ⟨D, h1, h2, T.drop hT⟩
theorem Dr.only {y : A} : ∀ {X : List A}, Dr p a F w0 w (y :: X) → Dr p a F w0 w [y]
  | [], h => h
  | _ :: X, h => Dr.only (X := X) (h.perm (.swap _ _ _)).dropX
theorem Dr.st1 {k i : Nat} {c c' : Array Value} {t : TypeId} {v : Value} {K : World → Prop} (h : Dr p a F w0 w (blk k c t :: X)) (hi : i < c.size) (hc : c.setIfInBounds i v = c') (hv : scalar v = true) (hK : ∀ w', Dr p a F w0 w' (blk k c' t :: X) → K w') : St ⟨k, i, none⟩ v w K := by
  obtain ⟨D, h1, h2, hT⟩ := h
  exact St.t (Γ := blk k c t :: (X ++ drvL D)) hT .head hi hc hv fun w' hT' => hK w' ⟨D, h1, h2, hT'⟩
theorem Dr.into {y : A} {K : Prop} (h : Dr p a F w0 w (y :: X)) (hK : ∀ Γ, T F w0 w (y :: Γ) → (∀ w' y', T F w0 w' (y' :: Γ) → Dr p a F w0 w' (y' :: X)) → K) : K := by
  obtain ⟨D, h1, h2, hT⟩ := h
  exact hK (X ++ drvL D) hT fun w' y' hT' => ⟨D, h1, h2, hT'⟩
theorem Rf.under (h : Rf p a F w0 w X) : T F w0 w X := by
  obtain ⟨R, h1, h2, hT⟩ := h
  exact T.dropAll hT
theorem Rf.alloc (h : Rf p a F w0 w X) {c : Array Value} {t : TypeId} {K : Nat → World → Prop} (hK : ∀ b w', Rf p a F w0 w' (blk b c t :: X) → K b w') : Alloc c t w K := by
  obtain ⟨R, h1, h2, hT⟩ := h
  exact Alloc.t hT fun b w' hT' => hK b w' ⟨R, h1, h2, hT'.swap List.perm_middle.symm⟩
theorem Rf.st1 {k i : Nat} {c c' : Array Value} {t : TypeId} {v : Value} {K : World → Prop} (h : Rf p a F w0 w (blk k c t :: X)) (hi : i < c.size) (hc : c.setIfInBounds i v = c') (hv : scalar v = true) (hK : ∀ w', Rf p a F w0 w' (blk k c' t :: X) → K w') : St ⟨k, i, none⟩ v w K := by
  obtain ⟨R, h1, h2, hT⟩ := h
  exact St.t (hT.swap List.perm_middle) .head hi hc hv fun w' hT' => hK w' ⟨R, h1, h2, hT'.swap List.perm_middle.symm⟩
theorem Rf.perm {X' : List A} (h : Rf p a F w0 w X) (hp : X.Perm X') : Rf p a F w0 w X' := by
  obtain ⟨R, h1, h2, hT⟩ := h
  exact ⟨R, h1, h2, hT.swap (hp.append_left _)⟩
theorem Rf.dropX {y : A} (h : Rf p a F w0 w (y :: X)) : Rf p a F w0 w X := by
  obtain ⟨R, h1, h2, hT⟩ := h
  exact ⟨R, h1, h2, T.drop (hT.swap List.perm_middle)⟩
theorem Rf.drew (h : Rf p a F w0 w X) : Rf p a F w0 w.drew X := by
  obtain ⟨R, h1, h2, hT⟩ := h
  exact ⟨R, h1, h2, hT.drew⟩
theorem Rf.dead (h : Rf p a F w0 w X) : w.cell? (Addr.add ⟨p, 0, none⟩ 3) = some (.bool a.dead) := by
  obtain ⟨R, rfl, hA, hT⟩ := h
  rw [← hA.dead]
  exact hT.ldA (by repeat (first | exact List.Mem.head _ | refine List.Mem.tail _ ?_)) rfl
end
end Go.Proofs.YtedbbdeeofdepaaGreatDoor
end
section
/-! Many drives, and many of the reference's. -/
namespace Go.Proofs.YtedbbdeeofdepaaGreatDoor
open Go.Sh Go.RowKit
set_option linter.unusedVariables false
set_option linter.unusedSimpArgs false
set_option maxRecDepth 20000
set_option maxHeartbeats 1000000
def drK (p : Nat) (a : AD) : Kd := fun Y => ∃ D, D.p = p ∧ Abs D a ∧ Y = drvL D
def rfK (p : Nat) (a : AD) : Kd := fun Y => ∃ R, R.p = p ∧ RAbs R a ∧ Y = refL R
section
variable {p q : Nat} {a : AD} {F : List Nat} {w0 w : World} {X : List A}
theorem Dr.ow (h : Dr p a F w0 w X) : Ow (drK p a) F w0 w X := by
  obtain ⟨D, h1, h2, hT⟩ := h
  exact ⟨_, ⟨D, h1, h2, rfl⟩, hT⟩
theorem Ow.dr (h : Ow (drK p a) F w0 w X) : Dr p a F w0 w X := by
  obtain ⟨Y, ⟨D, h1, h2, rfl⟩, hT⟩ := h
  exact ⟨D, h1, h2, hT⟩
theorem Rf.ow (h : Rf p a F w0 w X) : Ow (rfK p a) F w0 w X := by
  obtain ⟨D, h1, h2, hT⟩ := h
  exact ⟨_, ⟨D, h1, h2, rfl⟩, hT.swap List.perm_append_comm⟩
theorem Ow.rf (h : Ow (rfK p a) F w0 w X) : Rf p a F w0 w X := by
  obtain ⟨Y, ⟨D, h1, h2, rfl⟩, hT⟩ := h
  exact ⟨D, h1, h2, hT.swap List.perm_append_comm⟩
end
/-- a drive, or none -/
abbrev Od := Option (Nat × AD)
def odK : Od → Kd
  | none => noK
  | some x => drK x.1 x.2
def orK : Od → Kd
  | none => noK
  | some x => rfK x.1 x.2
abbrev dsK (l : List Od) : Kd := allK odK l
abbrev rsK (l : List Od) : Kd := allK orK l
def odV (x : Od) : Value := .pointer (x.map fun y => ⟨y.1, 0, none⟩)
def dptrs (l : List Od) : List Value := l.map odV
theorem dptrs_len (l : List Od) : (dptrs l).length = l.length := List.length_map ..
theorem dptrs_get {l : List Od} {k : Nat} {x : Od} (h : l[k]? = some x) : (dptrs l)[k]? = some (odV x) := by simp [dptrs, h]
section
variable {l : List Od} {k p : Nat} {a : AD} {F : List Nat} {w0 w : World} {X : List A}
/-- one drive of many -/
theorem Ow.drive (H : Ow (dsK l) F w0 w X) (hk : l[k]? = some (some (p, a))) : ∃ Z, Dr p a F w0 w (X ++ Z) ∧ ∀ {a' : AD} {F' : List Nat} {w0' w' : World} {X' : List A}, Dr p a' F' w0' w' (X' ++ Z) → Ow (dsK (l.set k (some (p, a')))) F' w0' w' X' := by
  obtain ⟨Z, h1, h2⟩ := Ow.at hk H
  exact ⟨Z, Ow.dr h1, fun {a' F' w0' w' X'} h' => h2 (x' := some (p, a')) (Dr.ow h')⟩
theorem Ow.rdrive (H : Ow (rsK l) F w0 w X) (hk : l[k]? = some (some (p, a))) : ∃ Z, Rf p a F w0 w (X ++ Z) ∧ ∀ {a' : AD} {F' : List Nat} {w0' w' : World} {X' : List A}, Rf p a' F' w0' w' (X' ++ Z) → Ow (rsK (l.set k (some (p, a')))) F' w0' w' X' := by
  obtain ⟨Z, h1, h2⟩ := Ow.at hk H
  exact ⟨Z, Ow.rf h1, fun {a' F' w0' w' X'} h' => h2 (x' := some (p, a')) (Rf.ow h')⟩
theorem set_get_same {α : Type} {l : List α} {k : Nat} {x : α} (h : l[k]? = some x) : l.set k x = l := by
  obtain ⟨hk, he⟩ := List.getElem?_eq_some_iff.1 h
  rw [← he, List.set_getElem_self]
/-- a call on one drive of many -/
theorem Ow.onDrive {P : Program} {f : FuncId} {args : Array Value} {v : Value} {b : AD} (H : Ow (dsK l) F w0 w X) (hk : l[k]? = some (some (p, a)))
    (hc : ∀ Z, Dr p a F w0 w (X ++ Z) → Calls P f args w fun e w' => e = .returned v ∧ Dr p b F w0 w' (X ++ Z)) : Calls P f args w fun e w' => e = .returned v ∧ Ow (dsK (l.set k (some (p, b)))) F w0 w' X := by
  obtain ⟨Z, h1, h2⟩ := Ow.drive H hk
  exact (hc Z h1).mono fun e w' ⟨he, h'⟩ => ⟨he, h2 h'⟩
theorem Ow.onRef {P : Program} {f : FuncId} {args : Array Value} {v : Value} {b : AD} (H : Ow (rsK l) F w0 w X) (hk : l[k]? = some (some (p, a)))
    (hc : ∀ Z, Rf p a F w0 w (X ++ Z) → Calls P f args w fun e w' => e = .returned v ∧ Rf p b F w0 w' (X ++ Z)) : Calls P f args w fun e w' => e = .returned v ∧ Ow (rsK (l.set k (some (p, b)))) F w0 w' X := by
  obtain ⟨Z, h1, h2⟩ := Ow.rdrive H hk
  exact (hc Z h1).mono fun e w' ⟨he, h'⟩ => ⟨he, h2 h'⟩
end
theorem getD_mem_or {α : Type} (l : List α) (j : Nat) (d : α) : l.getD j d ∈ l ∨ l.getD j d = d := by
  by_cases h : j < l.length
  · exact .inl (by simp [List.getD, h])
  · exact .inr (by simp [List.getD, List.getElem?_eq_none (Nat.le_of_not_lt h)])
/-- what a drive holds is no longer than a sector -/
theorem Dr.top_size {p : Nat} {a : AD} {F : List Nat} {w0 w : World} {X : List A} (h : Dr p a F w0 w X) (i : Nat) : (a.top i).size ≤ 64 := by
  obtain ⟨D, _, hA, _⟩ := h
  have hs : ∀ s ∈ a.safe, s.size = 64 := by rw [← hA.safe]; exact hA.ok.s64
  have hp : ∀ s ∈ a.pend i, s.size = 64 := by
    rw [← hA.pend i]
    unfold pendW
    cases hf : D.ws.find? fun e => e.k == (i : Int) with
    | none => intro s hs; cases hs
    | some e => exact hA.ok.w64 e (List.mem_of_find?_eq_some hf)
  unfold AD.top
  split
  · rename_i s he
    have := hp s (List.mem_of_getLast? he)
    omega
  · rcases getD_mem_or a.safe i noB with h | h
    · have := hs _ h; omega
    · rw [h]; show 0 ≤ 64; omega
theorem Dr.read_size {p : Nat} {a : AD} {F : List Nat} {w0 w : World} {X : List A} (h : Dr p a F w0 w X) (i : Int) : (a.read i).1.size ≤ 64 := by
  unfold AD.read
  split
  · show 0 ≤ 64; omega
  · split
    · show 0 ≤ 64; omega
    · exact h.top_size _
/-- pointers to blocks, or to none -/
def pv (x : Option Nat) : Value := .pointer (ptr x)
def ptrsV (ps : List (Option Nat)) : List Value := ps.map pv
theorem ptrsV_get {ps : List (Option Nat)} {k : Nat} {x : Option Nat} (h : ps[k]? = some x) : (ptrsV ps)[k]? = some (pv x) := by simp [ptrsV, h]
theorem ptrsV_len (ps : List (Option Nat)) : (ptrsV ps).length = ps.length := List.length_map ..
def odB (x : Od) : Option Nat := x.map fun y => y.1
/-- the blocks of drives -/
def blks (l : List Od) : List (Option Nat) := l.map odB
theorem blks_len (l : List Od) : (blks l).length = l.length := List.length_map ..
theorem blks_get {l : List Od} {k : Nat} {x : Od} (h : l[k]? = some x) : (blks l)[k]? = some (odB x) := by simp [blks, h]
theorem blks_set {l : List Od} {k p : Nat} {a b : AD} (h : l[k]? = some (some (p, a))) : blks (l.set k (some (p, b))) = blks l := by
  unfold blks
  rw [List.map_set]
  exact set_get_same (by simp [h, odB])
/-- a pointer of a row of them -/
theorem Ow.pcell {h : Kd} {F : List Nat} {w0 w : World} {X : List A} {t : TypeId} {g : Option Nat} {n cap : Nat} {ps : List (Option Nat)} (H : Ow h F w0 w X) (hm : rowP t 1 g n cap (ptrsV ps) ∈ X) {k : Nat} (hk : k < ps.length) : ∃ b, g = some b ∧ w.cell? (Addr.add ⟨b, 0, none⟩ (k * 1)) = some (.pointer (ptr (ps.getD k none))) := by
  have hs := H.under.says hm
  have hl : (ptrsV ps).length = n * 1 := rowP.len hs
  rw [ptrsV_len] at hl
  obtain ⟨b, rfl⟩ := rowP.pos hs (by omega)
  refine ⟨b, rfl, ?_⟩
  rw [addr_add, Nat.zero_add, Nat.mul_one]
  have : ps[k]? = some (ps.getD k none) := by simp [List.getD, hk]
  exact rowP.cell hs (ptrsV_get this)
/-- few writes are pending on each -/
def FewL (l : List Od) (N : Nat) : Prop := ∀ q a, some (q, a) ∈ l → a.Few N
theorem FewL.mono {l : List Od} {N M : Nat} (h : FewL l N) (hm : N ≤ M) : FewL l M := fun q a hq => (h q a hq).mono hm
theorem T.pcell {F : List Nat} {w0 w : World} {X : List A} {t : TypeId} {b n cap : Nat} {ps : List (Option Nat)} (H : T F w0 w X) (hm : rowP t 1 (some b) n cap (ptrsV ps) ∈ X) {k : Nat} (hk : k < ps.length) : w.cell? (Addr.add ⟨b, 0, none⟩ (k * 1)) = some (.pointer (ptr (ps.getD k none))) := by
  rw [addr_add, Nat.zero_add, Nat.mul_one]
  have : ps[k]? = some (ps.getD k none) := by simp [List.getD, hk]
  exact rowP.cell (H.says hm) (ptrsV_get this)
section
variable {P : Program} {f : FuncId} {args : Array Value} {v : Value} {g : Kd} {F : List Nat} {w0 w : World} {X : List A} {l l' : List Od} {k p : Nat} {a b : AD}
/-- a call on the first kind of two -/
theorem Ow.onFst {h h' : Kd} (H : Ow (star h g) F w0 w X) (hc : ∀ Z, Ow h F w0 w (X ++ Z) → Calls P f args w fun e w' => e = .returned v ∧ Ow h' F w0 w' (X ++ Z)) : Calls P f args w fun e w' => e = .returned v ∧ Ow (star h' g) F w0 w' X := by
  obtain ⟨Z, hZ, h1, h2⟩ := Ow.lend H
  exact (hc Z h1).mono fun e w' ⟨he, h3⟩ => ⟨he, h2 h3⟩
theorem Ow.onSnd {h h' : Kd} (H : Ow (star g h) F w0 w X) (hc : ∀ Z, Ow h F w0 w (X ++ Z) → Calls P f args w fun e w' => e = .returned v ∧ Ow h' F w0 w' (X ++ Z)) : Calls P f args w fun e w' => e = .returned v ∧ Ow (star g h') F w0 w' X :=
  (Ow.onFst H.flip hc).mono fun e w' ⟨he, h3⟩ => ⟨he, h3.flip⟩
theorem Ow.onD (H : Ow (star (dsK l) g) F w0 w X) (hk : l[k]? = some (some (p, a))) (hc : ∀ Z, Dr p a F w0 w (X ++ Z) → Calls P f args w fun e w' => e = .returned v ∧ Dr p b F w0 w' (X ++ Z)) : Calls P f args w fun e w' => e = .returned v ∧ Ow (star (dsK (l.set k (some (p, b)))) g) F w0 w' X :=
  Ow.onFst H fun Z hZ => Ow.onDrive hZ hk fun Z' hZ' => by
    rw [List.append_assoc] at hZ' ⊢
    exact hc (Z ++ Z') hZ'
theorem Ow.onR (H : Ow (star g (rsK l)) F w0 w X) (hk : l[k]? = some (some (p, a))) (hc : ∀ Z, Rf p a F w0 w (X ++ Z) → Calls P f args w fun e w' => e = .returned v ∧ Rf p b F w0 w' (X ++ Z)) : Calls P f args w fun e w' => e = .returned v ∧ Ow (star g (rsK (l.set k (some (p, b))))) F w0 w' X :=
  Ow.onSnd H fun Z hZ => Ow.onRef hZ hk fun Z' hZ' => by
    rw [List.append_assoc] at hZ' ⊢
    exact hc (Z ++ Z') hZ'
end
/-- how drives stand, whichever they are -/
def adO (x : Od) : Option AD := x.map fun y => y.2
def ads (l : List Od) : List (Option AD) := l.map adO
theorem ads_get {l m : List Od} (h : ads l = ads m) {k p : Nat} {a : AD} (hk : l[k]? = some (some (p, a))) : ∃ q, m[k]? = some (some (q, a)) := by
  have h1 : (ads l)[k]? = some (some a) := by simp [ads, hk, adO]
  rw [h] at h1
  unfold ads at h1
  rw [List.getElem?_map] at h1
  cases hx : m[k]? with
  | none => rw [hx] at h1; cases h1
  | some x =>
    rw [hx] at h1
    cases x with
    | none => cases h1
    | some y =>
      have : y.2 = a := by simpa [adO] using h1
      exact ⟨y.1, by rw [← this]⟩
theorem ads_set {l m : List Od} (h : ads l = ads m) {k p q : Nat} {a : AD} : ads (l.set k (some (p, a))) = ads (m.set k (some (q, a))) := by
  unfold ads at *
  rw [List.map_set, List.map_set, h]; rfl
theorem ads_len {l m : List Od} (h : ads l = ads m) : l.length = m.length := by
  have := congrArg List.length h
  simpa [ads] using this
theorem FewL.ads {l m : List Od} {N : Nat} (h : ads l = ads m) (hF : FewL l N) : FewL m N := fun q a hm => by
  obtain ⟨k, hk, he⟩ := List.getElem_of_mem hm
  obtain ⟨p, hp⟩ := ads_get h.symm (k := k) (p := q) (a := a) (by rw [List.getElem?_eq_getElem hk, he])
  exact hF p a (List.mem_of_getElem? hp)
theorem FewL.set {l : List Od} {N : Nat} (h : FewL l N) {k p : Nat} {a : AD} (ha : a.Few N) : FewL (l.set k (some (p, a))) N := fun q b hm => by
  rcases List.mem_or_eq_of_mem_set hm with hm | hm
  · exact h q b hm
  · simp at hm
    rw [hm.2]; exact ha
section
variable {h g : Kd} {F : List Nat} {w0 w : World} {X : List A} {l : List Od} {q : Nat} {a : AD}
theorem Ow.newD {n : Nat} (H : Ow h F w0 w X) (hn : 1 ≤ n ∧ n ≤ 4096) {Φ : Ending → World → Prop} (hk : ∀ q w', Ow (star (drK q (AD.new n)) h) F w0 w' X → Φ (.returned (.pointer (some ⟨q, 0, none⟩))) w') : Calls Tryz.prog 20 #[.int .i64 n] w Φ := by
  obtain ⟨Y, hY, hT⟩ := H
  refine new_u hT hn fun q w' h' => hk q w' ?_
  exact Ow.join hY (Dr.ow h')
theorem Ow.newR {n : Nat} (H : Ow h F w0 w X) (hn : 1 ≤ n ∧ n ≤ 4096) {Φ : Ending → World → Prop} (hk : ∀ q w', Ow (star (rfK q (AD.new n)) h) F w0 w' X → Φ (.returned (.pointer (some ⟨q, 0, none⟩))) w') : Calls Tryz.prog 26 #[.int .i64 n] w Φ := by
  obtain ⟨Y, hY, hT⟩ := H
  refine (rnew_r n hT hn).mono fun e w' ⟨q, he, h'⟩ => he ▸ hk q w' ?_
  exact Ow.join hY (Rf.ow h')
theorem Ow.assoc {k : Kd} (H : Ow (star k (star h g)) F w0 w X) : Ow (star (star k h) g) F w0 w X := by
  obtain ⟨Y, ⟨Y1, Y2, h1, ⟨Y3, Y4, h2, h3, rfl⟩, rfl⟩, hT⟩ := H
  exact ⟨_, ⟨Y1 ++ Y3, Y4, ⟨Y1, Y3, h1, h2, rfl⟩, h3, rfl⟩, by rw [List.append_assoc Y1 Y3 Y4]; exact hT⟩
theorem Ow.inFst {h' : Kd} (H : Ow (star h g) F w0 w X) (hi : ∀ {X : List A}, Ow h F w0 w X → Ow h' F w0 w X) : Ow (star h' g) F w0 w X := by
  obtain ⟨Z, hZ, h1, h2⟩ := Ow.lend H
  exact h2 (hi h1)
theorem Ow.inSnd {h' : Kd} (H : Ow (star g h) F w0 w X) (hi : ∀ {X : List A}, Ow h F w0 w X → Ow h' F w0 w X) : Ow (star g h') F w0 w X := (Ow.inFst H.flip hi).flip
theorem Ow.addD (H : Ow (star (drK q a) (star (dsK l) g)) F w0 w X) : Ow (star (dsK (l ++ [some (q, a)])) g) F w0 w X :=
  Ow.inFst (Ow.assoc H) fun h => Ow.snoc (f := odK) (x := some (q, a)) h
theorem Ow.addR (H : Ow (star (rfK q a) (star g (rsK l))) F w0 w X) : Ow (star g (rsK (l ++ [some (q, a)]))) F w0 w X := by
  obtain ⟨Y, ⟨Y1, Y2, h1, ⟨Y3, Y4, h2, h3, rfl⟩, rfl⟩, hT⟩ := H
  have h4 : Ow (star (rfK q a) (rsK l)) F w0 w (X ++ Y3) := ⟨Y1 ++ Y4, ⟨Y1, Y4, h1, h3, rfl⟩, hT.swap (by
    rw [List.append_assoc]
    refine List.Perm.append_left _ ?_
    rw [← List.append_assoc, ← List.append_assoc]
    exact List.perm_append_comm.append_right _)⟩
  exact (Ow.join h2 (Ow.snoc (f := orK) (x := some (q, a)) h4)).flip
theorem Ow.addDN (H : Ow (star (dsK l) g) F w0 w X) : Ow (star (dsK (l ++ [none])) g) F w0 w X :=
  Ow.inFst H fun h => by
    refine Ow.snoc (f := odK) (x := none) ?_
    obtain ⟨Y, hY, hT⟩ := h
    exact ⟨Y, ⟨[], Y, rfl, hY, rfl⟩, hT⟩
theorem Ow.addRN (H : Ow (star g (rsK l)) F w0 w X) : Ow (star g (rsK (l ++ [none]))) F w0 w X :=
  Ow.inSnd H fun h => by
    refine Ow.snoc (f := orK) (x := none) ?_
    obtain ⟨Y, hY, hT⟩ := h
    exact ⟨Y, ⟨[], Y, rfl, hY, rfl⟩, hT⟩
end
theorem blks_snoc (l : List Od) (x : Od) : ptrsV (blks (l ++ [x])) = ptrsV (blks l) ++ [odV x] := by
  cases x <;> simp [ptrsV, blks, odB, pv, odV]
theorem ads_snoc (l : List Od) (x : Od) : ads (l ++ [x]) = ads l ++ [adO x] := by simp [ads]
end Go.Proofs.YtedbbdeeofdepaaGreatDoor
end
