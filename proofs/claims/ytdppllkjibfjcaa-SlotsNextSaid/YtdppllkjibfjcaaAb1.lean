import Derived.Test.YtdppllkjibfjcaaDr15
/-! A drive as the calls show it: plain. -/
namespace Go.Proofs.Ytdppllkjibfjcaa
open Go.Sh Go.Maps
set_option linter.unusedVariables false
set_option maxHeartbeats 1000000
set_option maxRecDepth 20000
abbrev noB : ByteArray := ByteArray.mk #[]
/-- a drive: the safe sectors, the writes of each behind that, the spoilt ones, is it dead, how much power is left (none: no end of it) -/
structure AD where
  safe : List ByteArray
  pend : Nat → List ByteArray
  spoilt : Nat → Bool
  dead : Bool
  power : Option Nat
def AD.off (a : AD) : Bool := a.power == some 0
def AD.may (a : AD) (i : Int) : Int := if a.dead then 40 else if a.off then 42 else if i < 0 ∨ i ≥ (a.safe.length : Int) then 70 else 0
def AD.top (a : AD) (i : Nat) : ByteArray := match (a.pend i).getLast? with
  | some s => s
  | none => a.safe.getD i noB
def AD.read (a : AD) (i : Int) : ByteArray × Int := if a.may i ≠ 0 then (noB, a.may i) else if a.spoilt i.toNat then (noB, 41) else (a.top i.toNat, 0)
def AD.safeAt (a : AD) (i : Int) : ByteArray × Int := if i < 0 ∨ i ≥ (a.safe.length : Int) then (noB, 70) else (a.safe.getD i.toNat noB, 0)
def AD.put (a : AD) (i : Int) (s : ByteArray) : Int := if a.may i ≠ 0 then a.may i else if s.size ≠ 64 then 1 else 0
def AD.write (a : AD) (i : Int) (s : ByteArray) : AD := if a.put i s ≠ 0 then a else { a with pend := fun j => if j = i.toNat then a.pend j ++ [s] else a.pend j, spoilt := fun j => if j = i.toNat then false else a.spoilt j, power := a.power.map (· - 1) }
def AD.change (a : AD) (i : Int) (s : ByteArray) : AD := if a.put i s ≠ 0 then a else { a with safe := a.safe.set i.toNat s, pend := fun j => if j = i.toNat then [] else a.pend j }
def AD.spoil (a : AD) (i : Int) : AD := if a.may i ≠ 0 then a else { a with spoilt := fun j => if j = i.toNat then true else a.spoilt j }
def AD.die (a : AD) : AD := { a with dead := true }
def AD.setOff (a : AD) (n : Int) : AD := { a with power := some n.toNat }
/-- sector by sector: how many of the writes are kept; k counts those that have any -/
def keptFrom (g : Nat → Nat → Nat) (pend : Nat → List ByteArray) : Nat → Nat → List ByteArray → List ByteArray
  | _, _, [] => []
  | i, k, s :: l => if pend i = [] then s :: keptFrom g pend (i + 1) k l else (if 0 < g k (pend i).length then (pend i).getD (g k (pend i).length - 1) noB else s) :: keptFrom g pend (i + 1) (k + 1) l
def AD.settle (a : AD) (g : Nat → Nat → Nat) : AD := { a with safe := keptFrom g a.pend 0 0 a.safe, pend := fun _ => [] }
def AD.flush1 (a : AD) : Int := if a.dead then 40 else if a.off then 42 else 0
def AD.flush (a : AD) : AD := if a.flush1 ≠ 0 then a else { a with power := a.power.map (· - 1) }.settle fun _ m => m
def AD.crash (a : AD) (keep : List UInt8) : AD := { a with power := none }.settle (keepG keep)
def AD.pending (a : AD) : Nat := ((List.range a.safe.length).map fun i => (a.pend i).length).sum
def AD.new (n : Nat) : AD := ⟨List.replicate n zeroSec, fun _ => [], fun _ => false, false, none⟩
/-- no sector has too many writes -/
def AD.Few (a : AD) (N : Nat) : Prop := ∀ i, (a.pend i).length ≤ N
/-- D is that drive -/
structure Abs (D : DL) (a : AD) : Prop where
  ok : DOk D
  safe : D.safe = a.safe
  pend : ∀ i : Nat, pendW D.ws i = a.pend i
  sp : ∀ i : Nat, (getK i D.sp).isSome = a.spoilt i
  dead : D.dead = a.dead
  power : match a.power with
    | none => D.cut = false
    | some n => D.cut = true ∧ D.left = n ∧ n ≤ 9223372036854775807
theorem Abs.off {D : DL} {a : AD} (h : Abs D a) : offG D = a.off := by
  have hp := h.power
  unfold offG AD.off
  cases ha : a.power with
  | none => rw [ha] at hp; simp only at hp; simp [hp]
  | some n =>
    rw [ha] at hp
    simp only at hp
    rw [hp.1, hp.2.1]
    by_cases hn : n = 0
    · subst hn; rfl
    · have h1 : ((n : Int) == 0) = false := by simpa using hn
      rw [h1]; simp [hn]
theorem Abs.may {D : DL} {a : AD} (h : Abs D a) (i : Int) : mayG D i = a.may i := by
  unfold mayG AD.may
  rw [h.dead, h.off, h.safe]
theorem Abs.put {D : DL} {a : AD} (h : Abs D a) (i : Int) (s : ByteArray) : putG D i s = a.put i s := by
  unfold putG AD.put
  rw [h.may]
theorem Abs.safeAt {D : DL} {a : AD} (h : Abs D a) (i : Int) : safeG D i = a.safeAt i := by
  unfold safeG AD.safeAt
  rw [h.safe]
theorem AD.may_zero {a : AD} {i : Int} (h : a.may i = 0) : 0 ≤ i ∧ i < (a.safe.length : Int) := by
  unfold AD.may at h
  split at h
  · cases h
  split at h
  · cases h
  split at h
  · cases h
  · omega
theorem Abs.read {D : DL} {a : AD} (h : Abs D a) (i : Int) : readG D i = a.read i := by
  unfold readG AD.read
  rw [h.may]
  by_cases hm : a.may i = 0
  · have hi := AD.may_zero hm
    have ei : ((i.toNat : Nat) : Int) = i := by omega
    have h1 := h.sp i.toNat
    have h2 := h.pend i.toNat
    rw [ei] at h1 h2
    simp only [hm, ne_eq, not_true, if_false, spoiltG, h1]
    split
    · rfl
    · congr 1
      unfold topG AD.top
      rw [← h2, h.safe]
      unfold pendW wfind
      cases hf : D.ws.find? fun e => e.k == i with
      | none => rfl
      | some e =>
        simp only
        have hne := (h.ok.wk e (List.mem_of_find?_eq_some hf)).2.2
        rw [List.getLastD_eq_getLast?, List.getLast?_eq_some_getLast hne]; rfl
  · simp only [hm, ne_eq, not_false_eq_true, if_true]
/-- the drive's parts, and how it stands -/
def Dr (p : Nat) (a : AD) (F : List Nat) (w0 w : World) (X : List A) : Prop := ∃ D, D.p = p ∧ Abs D a ∧ T F w0 w (X ++ drvL D)
theorem AD.Few.row {a : AD} {N : Nat} (h : a.Few N) {D : DL} (hA : Abs D a) : ∀ e ∈ D.ws, e.l.length ≤ N := by
  intro e he
  have h1 := (hA.ok.wk e he)
  have h2 := hA.pend e.k.toNat
  have h3 := h e.k.toNat
  rw [← h2, show ((e.k.toNat : Nat) : Int) = e.k by omega] at h3
  unfold pendW at h3
  rw [find_of_mem hA.ok.wn he] at h3
  exact h3
end Go.Proofs.Ytdppllkjibfjcaa
