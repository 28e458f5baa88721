import Derived.Laws.StructEq
import Derived.Test.YtmipjkalfodcpaaGreatDoorM3
import Derived.Test.YtmipjkalfodcpaaGreatDoorM4
import Derived.Test.YtmipjkalfodcpaaGreatDoorM8
import Derived.Test.YtmipjkalfodcpaaGreatDoorM9
section
/-! What is owned, of a kind: lists of parts that something says. -/
namespace Go.Sh
open Go.RowKit
set_option linter.unusedVariables false
/-- a kind of parts -/
abbrev Kd := List A → Prop
def Ow (h : Kd) (F : List Nat) (w0 w : World) (X : List A) : Prop := ∃ Y, h Y ∧ T F w0 w (X ++ Y)
def star (h g : Kd) : Kd := fun Y => ∃ Y1 Y2, h Y1 ∧ g Y2 ∧ Y = Y1 ++ Y2
def noK : Kd := fun Y => Y = []
section
variable {h g : Kd} {F : List Nat} {w0 w : World} {X : List A}
theorem Ow.mk' {Y : List A} (hY : h Y) (hT : T F w0 w (X ++ Y)) : Ow h F w0 w X := ⟨Y, hY, hT⟩
theorem Ow.quiet {w' : World} (H : Ow h F w0 w X) (he : Ext w w') : Ow h F w0 w' X := by
  obtain ⟨Y, hY, hT⟩ := H
  exact ⟨Y, hY, hT.quiet he⟩
theorem Ow.drew (H : Ow h F w0 w X) : Ow h F w0 w.drew X := by
  obtain ⟨Y, hY, hT⟩ := H
  exact ⟨Y, hY, hT.drew⟩
theorem Ow.perm {X' : List A} (H : Ow h F w0 w X) (hp : X.Perm X') : Ow h F w0 w X' := by
  obtain ⟨Y, hY, hT⟩ := H
  exact ⟨Y, hY, hT.swap (hp.append_right _)⟩
theorem Ow.dropX {x : A} (H : Ow h F w0 w (x :: X)) : Ow h F w0 w X := by
  obtain ⟨Y, hY, hT⟩ := H
  exact ⟨Y, hY, T.drop hT⟩
theorem T.leave {Γ Δ : List A} (H : T F w0 w (Γ ++ Δ)) : T F w0 w Γ := by
  have H2 : T F w0 w (Δ ++ Γ) := H.swap List.perm_append_comm
  clear H
  induction Δ with
  | nil => exact H2
  | cons x Δ ih => exact ih (T.drop H2)
theorem Ow.under (H : Ow h F w0 w X) : T F w0 w X := by
  obtain ⟨Y, hY, hT⟩ := H
  exact T.leave hT
theorem Ow.leave {Z : List A} (H : Ow h F w0 w (X ++ Z)) : Ow h F w0 w X := by
  obtain ⟨Y, hY, hT⟩ := H
  have : T F w0 w ((X ++ Y) ++ Z) := hT.swap (by rw [List.append_assoc, List.append_assoc]; exact List.Perm.append_left _ List.perm_append_comm)
  exact ⟨Y, hY, T.leave this⟩
theorem Ow.ext (H : Ow h [] w0 w X) : Ext w0 w := H.under.chg.ext
theorem Ow.ld {b i : Nat} {c : Array Value} {t : TypeId} {v : Value} (H : Ow h F w0 w X) (hm : blk b c t ∈ X) (hv : c[i]? = some v) : w.cell? ⟨b, i, none⟩ = some v := H.under.ld hm hv
theorem Ow.of_T (H : T F w0 w X) : Ow noK F w0 w X := ⟨[], rfl, by rw [List.append_nil]; exact H⟩
theorem Ow.call {w' : World} {Γ Γ' : List A} (H : Ow h F w0 w (Γ ++ X)) (hc : T (feet Γ) w w' Γ') : Ow h F w0 w' (Γ' ++ X) := by
  obtain ⟨Y, hY, hT⟩ := H
  rw [List.append_assoc] at hT
  exact ⟨Y, hY, by rw [List.append_assoc]; exact T.call hT hc⟩
/-- a call that makes new parts alone -/
theorem Ow.new {w' : World} {Γ : List A} (H : Ow h F w0 w X) (hc : T [] w w' Γ) : Ow h F w0 w' (Γ ++ X) := Ow.call (Γ := []) H hc
theorem Ow.alloc {c : Array Value} {t : TypeId} {K : Nat → World → Prop} (H : Ow h F w0 w X) (hK : ∀ b w', Ow h F w0 w' (blk b c t :: X) → K b w') : Alloc c t w K := by
  obtain ⟨Y, hY, hT⟩ := H
  exact Alloc.t hT fun b w' h' => hK b w' ⟨Y, hY, h'⟩
theorem Turn.app {x y : A} {Γ Γ' : List A} (hu : Turn x y Γ Γ') (Y : List A) : Turn x y (Γ ++ Y) (Γ' ++ Y) := by
  induction hu with
  | head => exact .head
  | tail _ ih => exact .tail ih
theorem Pick.app {x : A} {Γ Γ' : List A} (hu : Pick x Γ Γ') (Y : List A) : Pick x (Γ ++ Y) (Γ' ++ Y) := by
  induction hu with
  | head => exact .head
  | tail _ ih => exact .tail ih
theorem Ow.st {X' : List A} {k i : Nat} {c c' : Array Value} {t : TypeId} {v : Value} {K : World → Prop} (H : Ow h F w0 w X) (hu : Turn (blk k c t) (blk k c' t) X X') (hi : i < c.size) (hc : c.setIfInBounds i v = c') (hv : scalar v = true) (hK : ∀ w', Ow h F w0 w' X' → K w') : St ⟨k, i, none⟩ v w K := by
  obtain ⟨Y, hY, hT⟩ := H
  exact St.t hT (hu.app Y) hi hc hv fun w' hT' => hK w' ⟨Y, hY, hT'⟩
/-- what is done to the parts at hand -/
theorem Ow.into {K : Prop} (H : Ow h F w0 w X) (hK : ∀ Y, T F w0 w (X ++ Y) → (∀ w' X', T F w0 w' (X' ++ Y) → Ow h F w0 w' X') → K) : K := by
  obtain ⟨Y, hY, hT⟩ := H
  exact hK Y hT fun w' X' hT' => ⟨Y, hY, hT'⟩
theorem Ow.mono (hi : ∀ Y, h Y → g Y) (H : Ow h F w0 w X) : Ow g F w0 w X := by
  obtain ⟨Y, hY, hT⟩ := H
  exact ⟨Y, hi Y hY, hT⟩
/-- the second kind is lent -/
theorem Ow.lend (H : Ow (star h g) F w0 w X) : ∃ Z, g Z ∧ Ow h F w0 w (X ++ Z) ∧ ∀ {h' : Kd} {F' : List Nat} {w0' w' : World} {X' : List A}, Ow h' F' w0' w' (X' ++ Z) → Ow (star h' g) F' w0' w' X' := by
  obtain ⟨Y, ⟨Y1, Y2, h1, h2, rfl⟩, hT⟩ := H
  refine ⟨Y2, h2, ⟨Y1, h1, hT.swap ?_⟩, fun {h' F' w0' w' X'} H' => ?_⟩
  · rw [List.append_assoc]; exact List.Perm.append_left _ List.perm_append_comm
  · obtain ⟨Y1', h1', hT'⟩ := H'
    exact ⟨_, ⟨Y1', Y2, h1', h2, rfl⟩, hT'.swap (by rw [List.append_assoc]; exact List.Perm.append_left _ List.perm_append_comm)⟩
theorem Ow.flip (H : Ow (star h g) F w0 w X) : Ow (star g h) F w0 w X := by
  obtain ⟨Y, ⟨Y1, Y2, h1, h2, rfl⟩, hT⟩ := H
  exact ⟨_, ⟨Y2, Y1, h2, h1, rfl⟩, hT.swap (List.Perm.append_left _ List.perm_append_comm)⟩
theorem Ow.join {Z : List A} (hg : g Z) (H : Ow h F w0 w (X ++ Z)) : Ow (star h g) F w0 w X := by
  obtain ⟨Y1, h1, hT⟩ := H
  exact ⟨_, ⟨Y1, Z, h1, hg, rfl⟩, hT.swap (by rw [List.append_assoc]; exact List.Perm.append_left _ List.perm_append_comm)⟩
theorem Ow.fst (H : Ow (star h g) F w0 w X) : Ow h F w0 w X := by
  obtain ⟨Z, _, H1, _⟩ := H.lend
  exact H1.leave
end
/-- one thing of a kind for each of a list -/
def allK {α : Type} (f : α → Kd) : List α → Kd
  | [] => noK
  | x :: l => star (f x) (allK f l)
section
variable {α : Type} {f : α → Kd} {F : List Nat} {w0 w : World} {X : List A}
theorem allK_snoc {l : List α} {x : α} {Y Z : List A} (hY : allK f l Y) (hZ : f x Z) : ∃ Y', allK f (l ++ [x]) Y' ∧ (Y ++ Z).Perm Y' := by
  induction l generalizing Y with
  | nil =>
    obtain rfl : Y = [] := hY
    exact ⟨Z ++ [], ⟨Z, [], hZ, rfl, rfl⟩, by simp⟩
  | cons y l ih =>
    obtain ⟨Y1, Y2, h1, h2, rfl⟩ := hY
    obtain ⟨Y', h3, h4⟩ := ih h2
    exact ⟨Y1 ++ Y', ⟨Y1, Y', h1, h3, rfl⟩, by rw [List.append_assoc]; exact List.Perm.append_left _ h4⟩
theorem allK_at {l : List α} {k : Nat} {x : α} (hk : l[k]? = some x) {Y : List A} (hY : allK f l Y) : ∃ Y1 Z, f x Y1 ∧ Y.Perm (Y1 ++ Z) ∧ ∀ x' Y1', f x' Y1' → ∃ Y', allK f (l.set k x') Y' ∧ (Y1' ++ Z).Perm Y' := by
  induction l generalizing k Y with
  | nil => simp at hk
  | cons y l ih =>
    obtain ⟨Y1, Y2, h1, h2, rfl⟩ := hY
    cases k with
    | zero =>
      obtain rfl : y = x := by simpa using hk
      exact ⟨Y1, Y2, h1, .refl _, fun x' Y1' hx' => ⟨Y1' ++ Y2, ⟨Y1', Y2, hx', h2, rfl⟩, .refl _⟩⟩
    | succ k =>
      obtain ⟨Z1, Z2, h3, h4, h5⟩ := ih (by simpa using hk) h2
      have sw : ∀ a b c : List A, (a ++ (b ++ c)).Perm (b ++ (a ++ c)) := fun a b c => by
        rw [← List.append_assoc, ← List.append_assoc]; exact List.perm_append_comm.append_right _
      refine ⟨Z1, Y1 ++ Z2, h3, (List.Perm.append_left _ h4).trans (sw _ _ _), fun x' Y1' hx' => ?_⟩
      obtain ⟨Y', h6, h7⟩ := h5 x' Y1' hx'
      exact ⟨Y1 ++ Y', ⟨Y1, Y', h1, h6, rfl⟩, (sw _ _ _).trans (List.Perm.append_left _ h7)⟩
/-- one of them is lent -/
theorem Ow.at {l : List α} {k : Nat} {x : α} (hk : l[k]? = some x) (H : Ow (allK f l) F w0 w X) : ∃ Z, Ow (f x) F w0 w (X ++ Z) ∧ ∀ {x' : α} {F' : List Nat} {w0' w' : World} {X' : List A}, Ow (f x') F' w0' w' (X' ++ Z) → Ow (allK f (l.set k x')) F' w0' w' X' := by
  obtain ⟨Y, hY, hT⟩ := H
  obtain ⟨Y1, Z, h1, hp, hb⟩ := allK_at hk hY
  have sw : ∀ a b c : List A, ((a ++ b) ++ c).Perm (a ++ (c ++ b)) := fun a b c => by rw [List.append_assoc]; exact List.Perm.append_left _ List.perm_append_comm
  refine ⟨Z, ⟨Y1, h1, hT.swap ((List.Perm.append_left _ hp).trans ((sw _ _ _).symm))⟩, fun {x' F' w0' w' X'} H' => ?_⟩
  obtain ⟨Y1', h1', hT'⟩ := H'
  obtain ⟨Y', h2, h3⟩ := hb x' Y1' h1'
  exact ⟨Y', h2, hT'.swap ((sw _ _ _).trans (List.Perm.append_left _ h3))⟩
theorem Ow.snoc {l : List α} {x : α} (H : Ow (star (f x) (allK f l)) F w0 w X) : Ow (allK f (l ++ [x])) F w0 w X := by
  obtain ⟨Y, ⟨Y1, Y2, h1, h2, rfl⟩, hT⟩ := H
  obtain ⟨Y', h3, h4⟩ := allK_snoc h2 h1
  exact ⟨Y', h3, hT.swap (List.Perm.append_left _ (List.perm_append_comm.trans h4))⟩
theorem Ow.nil_all (H : T F w0 w X) : Ow (allK f []) F w0 w X := Ow.of_T H
end
section
variable {h h' : Kd} {F : List Nat} {w0 w W : World} {X X' : List A}
theorem Ow.putTop {b : Nat} {o o' : Obj} (H : Ow h F w0 w (ob b o :: X)) : Ow h F w0 (w.putObj b o') (ob b o' :: X) := by
  obtain ⟨Y, hY, hT⟩ := H
  exact ⟨Y, hY, T.putTop hT⟩
theorem Ow.got {b : Nat} {o : Obj} (H : Ow h F w0 w X) (hm : ob b o ∈ X) : w.heap[b]? = some o := H.under.got hm
theorem Ow.shut {d : Nat} {Q : World → Prop} (H : Ow h F w0 w (ob d (.deferred (some [])) :: X)) (hq : ∀ w', Ow h F w0 w' X → Q w') : w.heap[d]? = some (.deferred (some [])) ∧ Q (w.putObj d (.deferred none)) :=
  ⟨H.got List.mem_cons_self, hq _ H.putTop.dropX⟩
theorem RoundO.t {obf : LoopState → Option Code → Obj} {l : Nat} {Φ : Value → World → Prop} {body : (World → Prop) → (Nat → World → Prop) → (World → Prop) → World → Prop}
    (H : Ow h F w0 W (ob l (obf .ready none) :: X)) (hΦ : ∀ w', Ow h' F w0 w' (ob l (obf .ready none) :: X') → Φ (.bool true) w')
    (hb : ∀ K B R w1, Ow h F w0 w1 (ob l (obf .busy none) :: X) → (∀ w2, Ow h' F w0 w2 (ob l (obf .busy none) :: X') → K w2) → body K B R w1) : RoundP obf l Φ body W :=
  ⟨H.got List.mem_cons_self, hb _ _ _ _ H.putTop fun w2 h2 => ⟨h2.got List.mem_cons_self, hΦ _ h2.putTop⟩⟩
theorem RoundRO.t {obf : LoopState → Option Code → Obj} {l : Nat} {Φ : Value → World → Prop} {body : (World → Prop) → (Nat → World → Prop) → (World → Prop) → World → Prop}
    (H : Ow h F w0 W (ob l (obf .ready none) :: X)) (hΦ : ∀ w', Ow h' F w0 w' (ob l (obf .done (some .ret)) :: X') → Φ (.bool false) w')
    (hb : ∀ K B R w1, Ow h F w0 w1 (ob l (obf .busy none) :: X) → (∀ w2, Ow h' F w0 w2 (ob l (obf .busy none) :: X') → R w2) → body K B R w1) : RoundP obf l Φ body W :=
  ⟨H.got List.mem_cons_self, hb _ _ _ _ H.putTop fun w2 h2 => ⟨h2.got List.mem_cons_self, hΦ _ h2.putTop⟩⟩
end
/-- a range over a function whose rounds all go on: those of 'ok' are done -/
theorem RangeO.t {P : Program} {round : (LoopState → Option Code → Obj) → Nat → List Value → World → (Value → World → Prop) → Prop} {os : List (Nat × (Nat → World → Prop))} {K R : Nat → World → Prop} {f : FuncId} {first cap : Array Value} (hb : bodyB P f = true)
    {F : List Nat} {w0 w : World} {ok : Nat → Prop} {h : Nat → Kd} {X : Nat → List A} {N : Nat} {arg : Nat → List Value} (H : Ow (h 0) F w0 w (X 0))
    (hcallee : ∀ (yv : Value) (x y : A), (∀ k W, ok k → Ow (h k) F w0 W (x :: y :: X k) → CallF P yv (arg k) W fun e w' => e = .returned (.bool true) ∧ Ow (h (k + 1)) F w0 w' (x :: y :: X (k + 1))) →
      ∀ W, Ow (h 0) F w0 W (x :: y :: X 0) → Calls P f (first.toList ++ [yv] ++ cap.toList).toArray W fun e w' => (∃ v, e = .returned v) ∧ Ow (h N) F w0 w' (x :: y :: X N))
    (hround : ∀ (obf : LoopState → Option Code → Obj) (l d k : Nat) (W : World) (Φ : Value → World → Prop), ok k → Ow (h k) F w0 W (ob l (obf .ready none) :: ob d (.deferred (some [])) :: X k) →
      (∀ w', Ow (h (k + 1)) F w0 w' (ob l (obf .ready none) :: ob d (.deferred (some [])) :: X (k + 1)) → Φ (.bool true) w') → round obf l (arg k) W Φ)
    (hK : ∀ d w', Ow (h N) F w0 w' (ob d (.deferred (some [])) :: X N) → K d w') : RangeP P (.func (.func f) first cap) round os K R w := by
  intro obf hob hyield
  refine ⟨f, first, cap, rfl, hb, ?_⟩
  have hsz : (w.alloc (.deferred (some []))).heap.size = w.heap.size + 1 := by simp
  have h2 : Ow (h 0) F w0 ((w.alloc (.deferred (some []))).alloc (obf .ready none)) (ob (w.heap.size + 1) (obf .ready none) :: ob w.heap.size (.deferred (some [])) :: X 0) := by
    obtain ⟨Y, hY, hT⟩ := H
    have h2 := (hT.alloc (.deferred (some []))).alloc (obf .ready none)
    rw [hsz] at h2
    exact ⟨Y, hY, h2⟩
  refine (hcallee (.func (.yield (w.heap.size + 1)) #[] #[]) (ob (w.heap.size + 1) (obf .ready none)) (ob w.heap.size (.deferred (some []))) ?_ _ h2).mono ?_
  · intro k W hk h
    show CallV P (.func (.yield (w.heap.size + 1)) #[] #[]) (arg k) W _
    exact hyield _ _ _ (h.got List.mem_cons_self) (hround obf _ w.heap.size k W _ hk h fun w' h' => ⟨rfl, h'⟩)
  · rintro e w3 ⟨hv, h⟩
    exact ⟨hv, .ready, none, h.got List.mem_cons_self, by simp, .inl ⟨rfl, hK _ _ h.putTop.dropX⟩⟩
end Go.Sh
end
section
/-! Many drives, and many of the reference's. -/
namespace Go.Proofs.YtmipjkalfodcpaaGreatDoor
open Go.Sh Go.RowKit
set_option linter.unusedVariables false
set_option linter.unusedSimpArgs false
set_option maxRecDepth 20000
set_option maxHeartbeats 1000000
def drK (p : Nat) (a : AD) : Kd := fun Y => ∃ D, D.p = p ∧ Abs D a ∧ Y = drvL D
def rfK (p : Nat) (a : AD) : Kd := fun Y => ∃ R, R.p = p ∧ RAbs R a ∧ Y = refL R
section
variable {p q : Nat} {a : AD} {F : List Nat} {w0 w : World} {X : List A}
theorem Dr.ow (h : Dr p a F w0 w X) : Ow (drK p a) F w0 w X := by
  obtain ⟨D, h1, h2, hT⟩ := h
  exact ⟨_, ⟨D, h1, h2, rfl⟩, hT⟩
theorem Ow.dr (h : Ow (drK p a) F w0 w X) : Dr p a F w0 w X := by
  obtain ⟨Y, ⟨D, h1, h2, rfl⟩, hT⟩ := h
  exact ⟨D, h1, h2, hT⟩
theorem Rf.ow (h : Rf p a F w0 w X) : Ow (rfK p a) F w0 w X := by
  obtain ⟨D, h1, h2, hT⟩ := h
  exact ⟨_, ⟨D, h1, h2, rfl⟩, hT.swap List.perm_append_comm⟩
theorem Ow.rf (h : Ow (rfK p a) F w0 w X) : Rf p a F w0 w X := by
  obtain ⟨Y, ⟨D, h1, h2, rfl⟩, hT⟩ := h
  exact ⟨D, h1, h2, hT.swap List.perm_append_comm⟩
end
/-- a drive, or none -/
abbrev Od := Option (Nat × AD)
def odK : Od → Kd
  | none => noK
  | some x => drK x.1 x.2
def orK : Od → Kd
  | none => noK
  | some x => rfK x.1 x.2
abbrev dsK (l : List Od) : Kd := allK odK l
abbrev rsK (l : List Od) : Kd := allK orK l
def odV (x : Od) : Value := .pointer (x.map fun y => ⟨y.1, 0, none⟩)
def dptrs (l : List Od) : List Value := l.map odV
theorem dptrs_len (l : List Od) : (dptrs l).length = l.length := List.length_map ..
theorem dptrs_get {l : List Od} {k : Nat} {x : Od} (h : l[k]? = some x) : (dptrs l)[k]? = some (odV x) := by simp [dptrs, h]
section
variable {l : List Od} {k p : Nat} {a : AD} {F : List Nat} {w0 w : World} {X : List A}
/-- one drive of many -/
theorem Ow.drive (H : Ow (dsK l) F w0 w X) (hk : l[k]? = some (some (p, a))) : ∃ Z, Dr p a F w0 w (X ++ Z) ∧ ∀ {a' : AD} {F' : List Nat} {w0' w' : World} {X' : List A}, Dr p a' F' w0' w' (X' ++ Z) → Ow (dsK (l.set k (some (p, a')))) F' w0' w' X' := by
  obtain ⟨Z, h1, h2⟩ := Ow.at hk H
  exact ⟨Z, Ow.dr h1, fun {a' F' w0' w' X'} h' => h2 (x' := some (p, a')) (Dr.ow h')⟩
theorem Ow.rdrive (H : Ow (rsK l) F w0 w X) (hk : l[k]? = some (some (p, a))) : ∃ Z, Rf p a F w0 w (X ++ Z) ∧ ∀ {a' : AD} {F' : List Nat} {w0' w' : World} {X' : List A}, Rf p a' F' w0' w' (X' ++ Z) → Ow (rsK (l.set k (some (p, a')))) F' w0' w' X' := by
  obtain ⟨Z, h1, h2⟩ := Ow.at hk H
  exact ⟨Z, Ow.rf h1, fun {a' F' w0' w' X'} h' => h2 (x' := some (p, a')) (Rf.ow h')⟩
theorem set_get_same {α : Type} {l : List α} {k : Nat} {x : α} (h : l[k]? = some x) : l.set k x = l := by
  obtain ⟨hk, he⟩ := List.getElem?_eq_some_iff.1 h
  rw [← he, List.set_getElem_self]
/-- a call on one drive of many -/
theorem Ow.onDrive {P : Program} {f : FuncId} {args : Array Value} {v : Value} {b : AD} (H : Ow (dsK l) F w0 w X) (hk : l[k]? = some (some (p, a)))
    (hc : ∀ Z, Dr p a F w0 w (X ++ Z) → Calls P f args w fun e w' => e = .returned v ∧ Dr p b F w0 w' (X ++ Z)) : Calls P f args w fun e w' => e = .returned v ∧ Ow (dsK (l.set k (some (p, b)))) F w0 w' X := by
  obtain ⟨Z, h1, h2⟩ := Ow.drive H hk
  exact (hc Z h1).mono fun e w' ⟨he, h'⟩ => ⟨he, h2 h'⟩
theorem Ow.onRef {P : Program} {f : FuncId} {args : Array Value} {v : Value} {b : AD} (H : Ow (rsK l) F w0 w X) (hk : l[k]? = some (some (p, a)))
    (hc : ∀ Z, Rf p a F w0 w (X ++ Z) → Calls P f args w fun e w' => e = .returned v ∧ Rf p b F w0 w' (X ++ Z)) : Calls P f args w fun e w' => e = .returned v ∧ Ow (rsK (l.set k (some (p, b)))) F w0 w' X := by
  obtain ⟨Z, h1, h2⟩ := Ow.rdrive H hk
  exact (hc Z h1).mono fun e w' ⟨he, h'⟩ => ⟨he, h2 h'⟩
end
theorem getD_mem_or {α : Type} (l : List α) (j : Nat) (d : α) : l.getD j d ∈ l ∨ l.getD j d = d := by
  by_cases h : j < l.length
  · exact .inl (by simp [List.getD, h])
  · exact .inr (by simp [List.getD, List.getElem?_eq_none (Nat.le_of_not_lt h)])
/-- what a drive holds is no longer than a sector -/
theorem Dr.top_size {p : Nat} {a : AD} {F : List Nat} {w0 w : World} {X : List A} (h : Dr p a F w0 w X) (i : Nat) : (a.top i).size ≤ 64 := by
  obtain ⟨D, _, hA, _⟩ := h
  have hs : ∀ s ∈ a.safe, s.size = 64 := by rw [← hA.safe]; exact hA.ok.s64
  have hp : ∀ s ∈ a.pend i, s.size = 64 := by
    rw [← hA.pend i]
    unfold pendW
    cases hf : D.ws.find? fun e => e.k == (i : Int) with
    | none => intro s hs; cases hs
    | some e => exact hA.ok.w64 e (List.mem_of_find?_eq_some hf)
  unfold AD.top
  split
  · rename_i s he
    have := hp s (List.mem_of_getLast? he)
    omega
  · rcases getD_mem_or a.safe i noB with h | h
    · have := hs _ h; omega
    · rw [h]; show 0 ≤ 64; omega
theorem Dr.read_size {p : Nat} {a : AD} {F : List Nat} {w0 w : World} {X : List A} (h : Dr p a F w0 w X) (i : Int) : (a.read i).1.size ≤ 64 := by
  unfold AD.read
  split
  · show 0 ≤ 64; omega
  · split
    · show 0 ≤ 64; omega
    · exact h.top_size _
/-- pointers to blocks, or to none -/
def pv (x : Option Nat) : Value := .pointer (ptr x)
def ptrsV (ps : List (Option Nat)) : List Value := ps.map pv
theorem ptrsV_get {ps : List (Option Nat)} {k : Nat} {x : Option Nat} (h : ps[k]? = some x) : (ptrsV ps)[k]? = some (pv x) := by simp [ptrsV, h]
theorem ptrsV_len (ps : List (Option Nat)) : (ptrsV ps).length = ps.length := List.length_map ..
def odB (x : Od) : Option Nat := x.map fun y => y.1
/-- the blocks of drives -/
def blks (l : List Od) : List (Option Nat) := l.map odB
theorem blks_len (l : List Od) : (blks l).length = l.length := List.length_map ..
theorem blks_get {l : List Od} {k : Nat} {x : Od} (h : l[k]? = some x) : (blks l)[k]? = some (odB x) := by simp [blks, h]
theorem blks_set {l : List Od} {k p : Nat} {a b : AD} (h : l[k]? = some (some (p, a))) : blks (l.set k (some (p, b))) = blks l := by
  unfold blks
  rw [List.map_set]
  exact set_get_same (by simp [h, odB])
/-- a pointer of a row of them -/
theorem Ow.pcell {h : Kd} {F : List Nat} {w0 w : World} {X : List A} {t : TypeId} {g : Option Nat} {n cap : Nat} {ps : List (Option Nat)} (H : Ow h F w0 w X) (hm : rowP t 1 g n cap (ptrsV ps) ∈ X) {k : Nat} (hk : k < ps.length) : ∃ b, g = some b ∧ w.cell? (Addr.add ⟨b, 0, none⟩ (k * 1)) = some (.pointer (ptr (ps.getD k none))) := by
  have hs := H.under.says hm
  have hl : (ptrsV ps).length = n * 1 := rowP.len hs
  rw [ptrsV_len] at hl
  obtain ⟨b, rfl⟩ := rowP.pos hs (by omega)
  refine ⟨b, rfl, ?_⟩
  rw [addr_add, Nat.zero_add, Nat.mul_one]
  have : ps[k]? = some (ps.getD k none) := by simp [List.getD, hk]
  exact rowP.cell hs (ptrsV_get this)
/-- few writes are pending on each -/
def FewL (l : List Od) (N : Nat) : Prop := ∀ q a, some (q, a) ∈ l → a.Few N
theorem FewL.mono {l : List Od} {N M : Nat} (h : FewL l N) (hm : N ≤ M) : FewL l M := fun q a hq => (h q a hq).mono hm
theorem T.pcell {F : List Nat} {w0 w : World} {X : List A} {t : TypeId} {b n cap : Nat} {ps : List (Option Nat)} (H : T F w0 w X) (hm : rowP t 1 (some b) n cap (ptrsV ps) ∈ X) {k : Nat} (hk : k < ps.length) : w.cell? (Addr.add ⟨b, 0, none⟩ (k * 1)) = some (.pointer (ptr (ps.getD k none))) := by
  rw [addr_add, Nat.zero_add, Nat.mul_one]
  have : ps[k]? = some (ps.getD k none) := by simp [List.getD, hk]
  exact rowP.cell (H.says hm) (ptrsV_get this)
section
variable {P : Program} {f : FuncId} {args : Array Value} {v : Value} {g : Kd} {F : List Nat} {w0 w : World} {X : List A} {l l' : List Od} {k p : Nat} {a b : AD}
/-- a call on the first kind of two -/
theorem Ow.onFst {h h' : Kd} (H : Ow (star h g) F w0 w X) (hc : ∀ Z, Ow h F w0 w (X ++ Z) → Calls P f args w fun e w' => e = .returned v ∧ Ow h' F w0 w' (X ++ Z)) : Calls P f args w fun e w' => e = .returned v ∧ Ow (star h' g) F w0 w' X := by
  obtain ⟨Z, hZ, h1, h2⟩ := Ow.lend H
  exact (hc Z h1).mono fun e w' ⟨he, h3⟩ => ⟨he, h2 h3⟩
theorem Ow.onSnd {h h' : Kd} (H : Ow (star g h) F w0 w X) (hc : ∀ Z, Ow h F w0 w (X ++ Z) → Calls P f args w fun e w' => e = .returned v ∧ Ow h' F w0 w' (X ++ Z)) : Calls P f args w fun e w' => e = .returned v ∧ Ow (star g h') F w0 w' X :=
  (Ow.onFst H.flip hc).mono fun e w' ⟨he, h3⟩ => ⟨he, h3.flip⟩
theorem Ow.onD (H : Ow (star (dsK l) g) F w0 w X) (hk : l[k]? = some (some (p, a))) (hc : ∀ Z, Dr p a F w0 w (X ++ Z) → Calls P f args w fun e w' => e = .returned v ∧ Dr p b F w0 w' (X ++ Z)) : Calls P f args w fun e w' => e = .returned v ∧ Ow (star (dsK (l.set k (some (p, b)))) g) F w0 w' X :=
  Ow.onFst H fun Z hZ => Ow.onDrive hZ hk fun Z' hZ' => by
    rw [List.append_assoc] at hZ' ⊢
    exact hc (Z ++ Z') hZ'
theorem Ow.onR (H : Ow (star g (rsK l)) F w0 w X) (hk : l[k]? = some (some (p, a))) (hc : ∀ Z, Rf p a F w0 w (X ++ Z) → Calls P f args w fun e w' => e = .returned v ∧ Rf p b F w0 w' (X ++ Z)) : Calls P f args w fun e w' => e = .returned v ∧ Ow (star g (rsK (l.set k (some (p, b))))) F w0 w' X :=
  Ow.onSnd H fun Z hZ => Ow.onRef hZ hk fun Z' hZ' => by
    rw [List.append_assoc] at hZ' ⊢
    exact hc (Z ++ Z') hZ'
end
/-- how drives stand, whichever they are -/
def adO (x : Od) : Option AD := x.map fun y => y.2
def ads (l : List Od) : List (Option AD) := l.map adO
theorem ads_get {l m : List Od} (h : ads l = ads m) {k p : Nat} {a : AD} (hk : l[k]? = some (some (p, a))) : ∃ q, m[k]? = some (some (q, a)) := by
  have h1 : (ads l)[k]? = some (some a) := by simp [ads, hk, adO]
  rw [h] at h1
  unfold ads at h1
  rw [List.getElem?_map] at h1
  cases hx : m[k]? with
  | none => rw [hx] at h1; cases h1
  | some x =>
    rw [hx] at h1
    cases x with
    | none => cases h1
    | some y =>
      have : y.2 = a := by simpa [adO] using h1
      exact ⟨y.1, by rw [← this]⟩
theorem ads_set {l m : List Od} (h : ads l = ads m) {k p q : Nat} {a : AD} : ads (l.set k (some (p, a))) = ads (m.set k (some (q, a))) := by
  unfold ads at *
  rw [List.map_set, List.map_set, h]; rfl
theorem ads_len {l m : List Od} (h : ads l = ads m) : l.length = m.length := by
  have := congrArg List.length h
  simpa [ads] using this
theorem FewL.ads {l m : List Od} {N : Nat} (h : ads l = ads m) (hF : FewL l N) : FewL m N := fun q a hm => by
  obtain ⟨k, hk, he⟩ := List.getElem_of_mem hm
  obtain ⟨p, hp⟩ := ads_get h.symm (k := k) (p := q) (a := a) (by rw [List.getElem?_eq_getElem hk, he])
  exact hF p a (List.mem_of_getElem? hp)
theorem FewL.set {l : List Od} {N : Nat} (h : FewL l N) {k p : Nat} {a : AD} (ha : a.Few N) : FewL (l.set k (some (p, a))) N := fun q b hm => by
  rcases List.mem_or_eq_of_mem_set hm with hm | hm
  · exact h q b hm
  · simp at hm
    rw [hm.2]; exact ha
section
variable {h g : Kd} {F : List Nat} {w0 w : World} {X : List A} {l : List Od} {q : Nat} {a : AD}
theorem Ow.newD {n : Nat} (H : Ow h F w0 w X) (hn : 1 ≤ n ∧ n ≤ 4096) {Φ : Ending → World → Prop} (hk : ∀ q w', Ow (star (drK q (AD.new n)) h) F w0 w' X → Φ (.returned (.pointer (some ⟨q, 0, none⟩))) w') : Calls Tryz.prog 5 #[.int .i64 n] w Φ := by
  obtain ⟨Y, hY, hT⟩ := H
  refine new_u hT hn fun q w' h' => hk q w' ?_
  exact Ow.join hY (Dr.ow h')
theorem Ow.newR {n : Nat} (H : Ow h F w0 w X) (hn : 1 ≤ n ∧ n ≤ 4096) {Φ : Ending → World → Prop} (hk : ∀ q w', Ow (star (rfK q (AD.new n)) h) F w0 w' X → Φ (.returned (.pointer (some ⟨q, 0, none⟩))) w') : Calls Tryz.prog 6 #[.int .i64 n] w Φ := by
  obtain ⟨Y, hY, hT⟩ := H
  refine (rnew_r n hT hn).mono fun e w' ⟨q, he, h'⟩ => he ▸ hk q w' ?_
  exact Ow.join hY (Rf.ow h')
theorem Ow.assoc {k : Kd} (H : Ow (star k (star h g)) F w0 w X) : Ow (star (star k h) g) F w0 w X := by
  obtain ⟨Y, ⟨Y1, Y2, h1, ⟨Y3, Y4, h2, h3, rfl⟩, rfl⟩, hT⟩ := H
  exact ⟨_, ⟨Y1 ++ Y3, Y4, ⟨Y1, Y3, h1, h2, rfl⟩, h3, rfl⟩, by rw [List.append_assoc Y1 Y3 Y4]; exact hT⟩
theorem Ow.inFst {h' : Kd} (H : Ow (star h g) F w0 w X) (hi : ∀ {X : List A}, Ow h F w0 w X → Ow h' F w0 w X) : Ow (star h' g) F w0 w X := by
  obtain ⟨Z, hZ, h1, h2⟩ := Ow.lend H
  exact h2 (hi h1)
theorem Ow.inSnd {h' : Kd} (H : Ow (star g h) F w0 w X) (hi : ∀ {X : List A}, Ow h F w0 w X → Ow h' F w0 w X) : Ow (star g h') F w0 w X := (Ow.inFst H.flip hi).flip
theorem Ow.addD (H : Ow (star (drK q a) (star (dsK l) g)) F w0 w X) : Ow (star (dsK (l ++ [some (q, a)])) g) F w0 w X :=
  Ow.inFst (Ow.assoc H) fun h => Ow.snoc (f := odK) (x := some (q, a)) h
theorem Ow.addR (H : Ow (star (rfK q a) (star g (rsK l))) F w0 w X) : Ow (star g (rsK (l ++ [some (q, a)]))) F w0 w X := by
  obtain ⟨Y, ⟨Y1, Y2, h1, ⟨Y3, Y4, h2, h3, rfl⟩, rfl⟩, hT⟩ := H
  have h4 : Ow (star (rfK q a) (rsK l)) F w0 w (X ++ Y3) := ⟨Y1 ++ Y4, ⟨Y1, Y4, h1, h3, rfl⟩, hT.swap (by
    rw [List.append_assoc]
    refine List.Perm.append_left _ ?_
    rw [← List.append_assoc, ← List.append_assoc]
    exact List.perm_append_comm.append_right _)⟩
  exact (Ow.join h2 (Ow.snoc (f := orK) (x := some (q, a)) h4)).flip
theorem Ow.addDN (H : Ow (star (dsK l) g) F w0 w X) : Ow (star (dsK (l ++ [none])) g) F w0 w X :=
  Ow.inFst H fun h => by
    refine Ow.snoc (f := odK) (x := none) ?_
    obtain ⟨Y, hY, hT⟩ := h
    exact ⟨Y, ⟨[], Y, rfl, hY, rfl⟩, hT⟩
theorem Ow.addRN (H : Ow (star g (rsK l)) F w0 w X) : Ow (star g (rsK (l ++ [none]))) F w0 w X :=
  Ow.inSnd H fun h => by
    refine Ow.snoc (f := orK) (x := none) ?_
    obtain ⟨Y, hY, hT⟩ := h
    exact ⟨Y, ⟨[], Y, rfl, hY, rfl⟩, hT⟩
end
theorem blks_snoc (l : List Od) (x : Od) : ptrsV (blks (l ++ [x])) = ptrsV (blks l) ++ [odV x] := by
  cases x <;> simp [ptrsV, blks, odB, pv, odV]
theorem ads_snoc (l : List Od) (x : Od) : ads (l ++ [x]) = ads l ++ [adO x] := by simp [ads]
end Go.Proofs.YtmipjkalfodcpaaGreatDoor
end
section
/-! pages: Encode, Decode, Save, Load. -/
namespace Go.Proofs.YtmipjkalfodcpaaGreatDoor
open Go.Sh Go.RowKit
set_option linter.unusedVariables false
set_option linter.unusedSimpArgs false
set_option maxRecDepth 20000
set_option maxHeartbeats 1000000
def pgC (p : PgV) : Array Value := #[.int .u64 (p.ev : Int), .string (strB p.bits)]
theorem wid8 : Wid [8] := ⟨by decide, by decide⟩
theorem fit8 {n : Nat} (h : n < 2 ^ 64) : ∀ (i m x : Nat), [n][i]? = some m → [8][i]? = some x → m < 256 ^ x := fun i m x hm hx => by
  match i, hm, hx with
  | 0, hm, hx =>
    cases hm; cases hx
    have e : (256 : Nat) ^ 8 = 2 ^ 64 := by decide
    omega
  | i + 1, hm, _ => simp at hm
theorem encP8 (n : Nat) : encP [n] [8] = leB n 8 := by simp [encP]
theorem pencode_spec {p : PgV} (he : p.ev < 2 ^ 64) (hb : p.bits.length ≤ 1000000) (w : World) : Ret Tryz.prog 22 #[.agg (pgC p)] w (.tuple #[.string (strB (encPgF p).1), .int .i64 (encPgF p).2]) := by
  refine ret_of (pages_Encode_calls ?_)
  unfold pages_Encode
  refine Alloc.t (T.nil w) fun k1 w1 h1 => ⟨_, h1.ld (b := k1) (by repeat (first | exact List.Mem.head _ | refine List.Mem.tail _ ?_)) rfl, bne_t fun hne => ?_, bne_f fun heq => ?_⟩
  · rw [strB_size] at hne
    unfold encPgF
    rw [if_neg (by omega)]
    exact ⟨rfl, h1.chg.ext⟩
  rw [strB_size] at heq
  have h8 : p.bits.length = 8 := by omega
  refine ⟨_, h1.ld (b := k1) (by repeat (first | exact List.Mem.head _ | refine List.Mem.tail _ ?_)) rfl, Alloc.t h1 fun k15 w2 h2 => ?_⟩
  have h2 : T [] w w2 (rowP 23 1 (some k15) 1 1 (u64s [p.ev]) :: [blk k1 (pgC p) 36]) := blk_row h2 rfl rfl (by decide)
  refine Alloc.t h2 fun k16 w3 h3 => ?_
  have h3 : T [] w w3 (rowP 3 1 (some k16) 1 1 (ints [8]) :: rowP 23 1 (some k15) 1 1 (u64s [p.ev]) :: [blk k1 (pgC p) 36]) := blk_row h3 rfl rfl (by decide)
  refine (encode_spec (ns := [p.ev]) (ws := [8]) wid8 rfl (fit8 he) h3 (g1 := some k15) (g2 := some k16) (n1 := 1) (n2 := 1) (c1 := 1) (c2 := 1) rfl rfl (by repeat (first | exact List.Mem.head _ | refine List.Mem.tail _ ?_)) (by repeat (first | exact List.Mem.head _ | refine List.Mem.tail _ ?_))).mono fun e w4 ⟨he', h4⟩ => ⟨_, _, he', ?_⟩
  rw [encP8]
  have e4 : (ByteArray.mk #[82, 86, 84, 66]) = strB magB := rfl
  have l8 := leB_len p.ev 8
  rw [e4, strB_size, strB_size, strB_append]
  refine ⟨by rw [l8]; decide, _, h4.ld (b := k1) (i := 1) (by repeat (first | exact List.Mem.head _ | refine List.Mem.tail _ ?_)) rfl, by rw [strB_size, strB_size, List.length_append, l8, h8]; decide, ?_⟩
  rw [strB_append]
  have hl : (magB ++ leB p.ev 8 ++ p.bits).length = 20 := by simp [magB, l8, h8]
  refine (seal_spec (strB (magB ++ leB p.ev 8 ++ p.bits)) 64 (by rw [strB_size, hl]; omega) (by omega) w4).mono fun e w5 ⟨he5, hx5⟩ => ⟨_, _, he5, ?_, h4.chg.ext.trans hx5⟩
  unfold encPgF
  rw [if_pos h8]; rfl
theorem take_mid (b : List UInt8) (m n : Nat) (h : m + n ≤ 60) : (((b.take 60).drop m).take n) = (b.drop m).take n := by
  rw [List.drop_take, List.take_take, Nat.min_eq_left (by omega)]
theorem pdecode_spec (s : ByteArray) (hs : s.size ≤ 1000000) (w : World) : Ret Tryz.prog 35 #[.string s] w (.tuple #[.agg (pgC (decPg s.data.toList).1), .int .i64 (decPg s.data.toList).2]) := by
  refine ret_of (pages_Decode_calls ?_)
  unfold pages_Decode
  obtain ⟨b, rfl⟩ : ∃ b, s = strB b := ⟨s.data.toList, (strB_list s).symm⟩
  rw [strB_size] at hs ⊢
  have eb : (strB b).data.toList = b := rfl
  rw [eb]
  refine Alloc.t (T.nil w) fun k2 w1 h1 => ?_
  have bad : ∀ (w' : World) (Γ : List A) (x : Int), T [] w w' Γ → (∃ Δ, Γ.Perm (blk k2 (pgC pgZ) 36 :: Δ)) → decPg b = (pgZ, x) →
      St ⟨k2, 0, none⟩ (.int .u64 0) w' fun w2 => St ⟨k2, 1, none⟩ (.string (ByteArray.mk #[])) w2 fun w3 => ∃ nr2_0 : Int, ∃ sr2_1 : ByteArray, (w3.cell? ⟨k2, 0, none⟩ = some (.int .u64 nr2_0) ∧ w3.cell? ⟨k2, 1, none⟩ = some (.string sr2_1)) ∧
        RetR w (.tuple #[.agg (pgC (decPg b).1), .int .i64 (decPg b).2]) (.tuple #[.agg #[.int .u64 nr2_0, .string sr2_1], .int .i64 x]) w3 := by
    rintro w' Γ x hT ⟨Δ, hp⟩ hd
    have hT := hT.swap hp
    refine St.t (c' := pgC pgZ) hT .head (show 0 < 2 by decide) rfl rfl fun w2 h2 => St.t (c' := pgC pgZ) h2 .head (show 1 < 2 by decide) rfl rfl fun w3 h3 => ?_
    refine ⟨_, _, ⟨h3.ld (b := k2) (by repeat (first | exact List.Mem.head _ | refine List.Mem.tail _ ?_)) rfl, h3.ld (b := k2) (i := 1) (by repeat (first | exact List.Mem.head _ | refine List.Mem.tail _ ?_)) rfl⟩, ?_, h3.chg.ext⟩
    rw [hd]; rfl
  refine ⟨bne_t fun hne => ?_, bne_f fun heq => ?_⟩
  · refine bad w1 _ 31 h1 ⟨_, .refl _⟩ ?_
    unfold decPg; rw [if_pos (by omega)]
  have h64 : b.length = 64 := by omega
  refine (open_spec (strB b) (by rw [strB_size]; omega) w1).mono fun e w4 ⟨he4, hx4⟩ => ⟨_, _, he4, ?_⟩
  rw [eb]
  have h4 := h1.quiet hx4
  refine ⟨not_t fun ho => ?_, not_f fun ho => ?_⟩
  · refine bad w4 _ 80 h4 ⟨_, .refl _⟩ ?_
    unfold decPg; rw [if_neg (by omega), if_pos ho]
  have hop : (openB b).1 = b.take 60 := by
    unfold openB at ho ⊢
    rw [h64] at ho ⊢
    rw [if_neg (by omega)] at ho ⊢
    split at ho
    · rename_i hq; rw [if_pos hq]
    · cases ho
  rw [hop]
  have hl60 : (b.take 60).length = 60 := by rw [List.length_take]; omega
  have e4 : (ByteArray.mk #[82, 86, 84, 66]) = strB magB := rfl
  rw [e4]
  have hpre : (b.take 60).take magB.length = b.take 4 := by rw [List.take_take]; rfl
  refine (cutPrefix_spec (b.take 60) magB (by omega) w4).mono fun e w7 ⟨he7, hx7⟩ => ?_
  have h7 := h4.quiet hx7
  unfold cutV at he7
  rw [hpre] at he7
  by_cases hm : b.take 4 = magB
  rotate_left
  · rw [if_neg hm] at he7
    refine ⟨_, _, he7, yes rfl (bad w7 _ 81 h7 ⟨_, .refl _⟩ ?_)⟩
    unfold decPg; rw [if_neg (by omega), if_neg (by rw [ho]; decide), if_pos hm]
  rw [if_pos hm] at he7
  have hd4 : (b.take 60).drop magB.length = (b.take 60).drop 4 := rfl
  rw [hd4] at he7
  refine ⟨_, _, he7, no rfl ?_⟩
  have hl56 : ((b.take 60).drop 4).length = 56 := by rw [List.length_drop]; omega
  have s1 := slice_from (P := Tryz.prog) (t := 9) (k := .i64) (s := strB ((b.take 60).drop 4)) (lo := 16) (w := w7) (by kernel_rfl) (by omega) (by rw [strB_size, hl56]; omega)
  rw [strB_extract, strB_size, hl56] at s1
  have e1 : ((((b.take 60).drop 4).drop (16 : Int).toNat).take (56 - (16 : Int).toNat)) = (b.take 60).drop 20 := by
    rw [show (16 : Int).toNat = 16 from rfl, List.drop_drop]
    exact List.take_of_length_le (by rw [List.length_drop]; omega)
  rw [e1] at s1
  refine ⟨_, w7, s1, ?_⟩
  have e0 : (ByteArray.mk #[0]) = strB [0] := rfl
  have en : (ByteArray.mk #[]).toList = [] := strB_toList []
  rw [e0, en]
  refine (trim_spec ((b.take 60).drop 20) (by rw [List.length_drop]; omega) w7).mono fun e w11 ⟨m, he11, hmz, hx11⟩ => ⟨_, he11, ?_⟩
  have h11 := h7.quiet hx11
  rw [strB_toList]
  refine ⟨fun hne => ?_, fun heq => ?_⟩
  · have hne : m ≠ [] := by simpa using hne
    refine bad w11 _ 1 h11 ⟨_, .refl _⟩ ?_
    unfold decPg; rw [if_neg (by omega), if_neg (by rw [ho]; decide), if_neg (by simpa using hm), if_pos (fun hh => hne (hmz.2 hh))]
  have heq : m = [] := by simpa using heq
  have hdec : decPg b = (⟨leN ((b.drop 4).take 8), (b.drop 12).take 8⟩, 0) := by
    unfold decPg; rw [if_neg (by omega), if_neg (by rw [ho]; decide), if_neg (by simpa using hm), if_neg (fun hn => hn (hmz.1 heq))]
  have s2 := slice_to (P := Tryz.prog) (t := 9) (k := .i64) (s := strB ((b.take 60).drop 4)) (hi := 8) (w := w11) (by kernel_rfl) (by omega) (by rw [strB_size, hl56]; omega)
  rw [strB_extract, List.drop_zero] at s2
  have e2 : (((b.take 60).drop 4).take ((8 : Int).toNat - 0)) = (b.drop 4).take 8 := take_mid b 4 8 (by omega)
  rw [e2] at s2
  refine ⟨_, w11, s2, Alloc.t h11 fun k38 w15 h15 => ?_⟩
  have h15 : T [] w w15 (rowP 3 1 (some k38) 1 1 (ints [8]) :: [blk k2 (pgC pgZ) 36]) := blk_row h15 rfl rfl (by decide)
  have hl8 : ((b.drop 4).take 8).length = 8 := by rw [List.length_take, List.length_drop]; omega
  refine (decode_spec (ws := [8]) wid8 (s := strB ((b.drop 4).take 8)) (by rw [strB_size, hl8]; rfl) h15 (g2 := some k38) (n2 := 1) (c2 := 1) rfl (by repeat (first | exact List.Mem.head _ | refine List.Mem.tail _ ?_))).mono fun e w16 ⟨b39, he16, h16⟩ => ⟨_, _, _, _, he16, no rfl ?_⟩
  have e8 : decP (strB ((b.drop 4).take 8)).data.toList [8] = [leN ((b.drop 4).take 8)] := by
    show [leN (((b.drop 4).take 8).take 8)] = _
    rw [List.take_take, Nat.min_self]
  rw [e8] at h16
  have h16 : T [] w w16 (rowP 23 1 (some b39) 1 1 (u64s [leN ((b.drop 4).take 8)]) :: rowP 3 1 (some k38) 1 1 (ints [8]) :: [blk k2 (pgC pgZ) 36]) := h16
  refine ⟨fun w' => ∃ Δ, rowP 23 1 (some b39) 1 1 (u64s [leN ((b.drop 4).take 8)]) ∈ Δ ∧ T [] w w' Δ, ⟨_, (by repeat (first | exact List.Mem.head _ | refine List.Mem.tail _ ?_)), h16.drew⟩, ⟨b39, 0, none⟩, rfl, by omega, by simp, (leN ((b.drop 4).take 8) : Int), fun w' ⟨Δ, hm', h'⟩ => rowP.cell (k := 0) (h'.says hm') rfl, ?_⟩
  refine ⟨strB ((b.drop 12).take 8), fun w' _ => ?_, ?_⟩
  · have s3 := slice_mid (P := Tryz.prog) (t := 9) (k := .i64) (k' := .i64) (s := strB ((b.take 60).drop 4)) (lo := 8) (hi := 16) (w := w') (by kernel_rfl) (by omega) (by omega) (by rw [strB_size, hl56]; omega)
    rw [strB_extract] at s3
    have e3 : ((((b.take 60).drop 4).drop (8 : Int).toNat).take ((16 : Int).toNat - (8 : Int).toNat)) = (b.drop 12).take 8 := by
      rw [show (8 : Int).toNat = 8 from rfl, List.drop_drop]
      exact take_mid b 12 8 (by omega)
    rw [e3] at s3
    exact s3
  refine St.t (c := pgC pgZ) (c' := #[.int .u64 (leN ((b.drop 4).take 8) : Int), .string (ByteArray.mk #[])]) h16.drew (by repeat (first | exact Turn.head | apply Turn.tail)) (show 0 < 2 by decide) rfl rfl fun w19 h19 => ?_
  refine St.t (c := #[.int .u64 (leN ((b.drop 4).take 8) : Int), .string (ByteArray.mk #[])]) (c' := pgC ⟨leN ((b.drop 4).take 8), (b.drop 12).take 8⟩) h19 (by repeat (first | exact Turn.head | apply Turn.tail)) (show 1 < 2 by decide) rfl rfl fun w20 h20 => ⟨⟨_, (by repeat (first | exact List.Mem.head _ | refine List.Mem.tail _ ?_)), h20⟩, _, _, ⟨h20.ld (b := k2) (c := pgC ⟨leN ((b.drop 4).take 8), (b.drop 12).take 8⟩) (by repeat (first | exact List.Mem.head _ | refine List.Mem.tail _ ?_)) rfl, h20.ld (b := k2) (c := pgC ⟨leN ((b.drop 4).take 8), (b.drop 12).take 8⟩) (i := 1) (by repeat (first | exact List.Mem.head _ | refine List.Mem.tail _ ?_)) rfl⟩, ?_, h20.chg.ext⟩
  rw [hdec]; rfl
section
variable {q : Nat} {a : AD} {F : List Nat} {w0 w : World} {X : List A}
theorem AD.read_size {a : AD} (h : ∀ i, (a.top i).size ≤ 64) (i : Int) : (a.read i).1.size ≤ 64 := by
  unfold AD.read
  split
  · show 0 ≤ 64; omega
  · split
    · show 0 ≤ 64; omega
    · exact h _
theorem pload_spec (h : Dr q a F w0 w X) (hF : a.Few 1000000) (hr : (a.read 2).1.size ≤ 1000000) : Ret Tryz.prog 18 #[.pointer (some ⟨q, 0, none⟩)] w (.tuple #[.agg (pgC (loadPg a).1), .int .i64 (loadPg a).2]) := by
  refine ret_of (pages_Load_calls ?_)
  unfold pages_Load
  obtain ⟨D, hD⟩ : ∃ Γ, Γ = (T.nil w) := ⟨_, rfl⟩
  refine Alloc.t (T.nil w) fun k2 w1 h1 => ?_
  refine (read_a (h.quiet h1.chg.ext) hF 2).mono fun e w2 ⟨he, hx⟩ => ⟨_, _, he, bne_t fun hne => ?_, bne_f fun heq => ?_⟩
  · have h2 := h1.quiet hx
    refine St.t (c' := pgC pgZ) h2 .head (show 0 < 2 by decide) rfl rfl fun w3 h3 => St.t (c' := pgC pgZ) h3 .head (show 1 < 2 by decide) rfl rfl fun w4 h4 => ?_
    refine ⟨_, _, ⟨h4.ld (b := k2) (by repeat (first | exact List.Mem.head _ | refine List.Mem.tail _ ?_)) rfl, h4.ld (b := k2) (i := 1) (by repeat (first | exact List.Mem.head _ | refine List.Mem.tail _ ?_)) rfl⟩, ?_, h4.chg.ext⟩
    unfold loadPg; rw [if_pos hne]; rfl
  · have h2 := h1.quiet hx
    refine (pdecode_spec (a.read 2).1 hr w2).mono fun e w5 ⟨he5, hx5⟩ => ⟨_, _, _, he5, ?_⟩
    have h5 := h2.quiet hx5
    refine St.t (c' := #[.int .u64 ((decPg (a.read 2).1.data.toList).1.ev : Int), .string (ByteArray.mk #[])]) h5 .head (show 0 < 2 by decide) rfl rfl fun w3 h3 => St.t (c' := pgC (decPg (a.read 2).1.data.toList).1) h3 .head (show 1 < 2 by decide) rfl rfl fun w4 h4 => ?_
    refine ⟨_, _, ⟨h4.ld (b := k2) (c := pgC (decPg (a.read 2).1.data.toList).1) (by repeat (first | exact List.Mem.head _ | refine List.Mem.tail _ ?_)) rfl, h4.ld (b := k2) (c := pgC (decPg (a.read 2).1.data.toList).1) (i := 1) (by repeat (first | exact List.Mem.head _ | refine List.Mem.tail _ ?_)) rfl⟩, ?_, h4.chg.ext⟩
    unfold loadPg; rw [if_neg (by omega)]; rfl
theorem psave_d (h : Dr q a F w0 w X) (hF : a.Few 999999) {p : PgV} (he : p.ev < 2 ^ 64) (hb : p.bits.length ≤ 1000000) :
    Calls Tryz.prog 7 #[.pointer (some ⟨q, 0, none⟩), .agg (pgC p)] w fun e w' => e = .returned (.int .i64 (savePg a p).2) ∧ Dr q (savePg a p).1 F w0 w' X := by
  refine (pages_Save_calls (R := fun v w' => v = .int .i64 (savePg a p).2 ∧ Dr q (savePg a p).1 F w0 w' X) ?_).mono fun e w' ⟨v, he, hv, hd⟩ => ⟨by rw [he, hv], hd⟩
  unfold pages_Save
  refine h.alloc fun k2 w1 h1 => h1.alloc fun k3 w2 h2 => ⟨_, _, ⟨h2.under.ld (b := k3) (c := pgC p) (by repeat (first | exact List.Mem.head _ | refine List.Mem.tail _ ?_)) rfl, h2.under.ld (b := k3) (c := pgC p) (i := 1) (by repeat (first | exact List.Mem.head _ | refine List.Mem.tail _ ?_)) rfl⟩, ?_⟩
  refine (pencode_spec he hb w2).mono fun e w3 ⟨he3, hx3⟩ => ⟨_, _, he3, ?_⟩
  refine (h2.quiet hx3).alloc fun k5 w4 h4 => h4.st1 (c' := #[.string (strB (encPgF p).1)]) (show 0 < 1 by decide) rfl rfl fun w5 h5 => h5.alloc fun k16 w6 h6 => ?_
  have hF' : a.Few 1000000 := hF.mono (by decide)
  have f0 : ∀ w', (∃ a', Dr q a' F w0 w' (blk k16 #[.func (.func 23) #[] #[.pointer (some ⟨k2, 0, none⟩), .pointer (some ⟨k5, 0, none⟩)], .func (.func 24) #[] #[.pointer (some ⟨k2, 0, none⟩)]] 66 :: blk k5 #[.string (strB (encPgF p).1)] 9 :: blk k3 (pgC p) 36 :: blk k2 #[.pointer (some ⟨q, 0, none⟩)] 27 :: X)) → w'.cell? ⟨k16, 0, none⟩ = some (.func (.func 23) #[] #[.pointer (some ⟨k2, 0, none⟩), .pointer (some ⟨k5, 0, none⟩)]) ∧ w'.cell? ⟨k16, 1, none⟩ = some (.func (.func 24) #[] #[.pointer (some ⟨k2, 0, none⟩)]) :=
    fun w' ⟨a', h'⟩ => ⟨h'.under.ld (b := k16) (by repeat (first | exact List.Mem.head _ | refine List.Mem.tail _ ?_)) rfl, h'.under.ld (b := k16) (i := 1) (by repeat (first | exact List.Mem.head _ | refine List.Mem.tail _ ?_)) rfl⟩
  have fin : ∀ a' x w', savePg a p = (a', x) → Dr q a' F w0 w' (blk k16 #[.func (.func 23) #[] #[.pointer (some ⟨k2, 0, none⟩), .pointer (some ⟨k5, 0, none⟩)], .func (.func 24) #[] #[.pointer (some ⟨k2, 0, none⟩)]] 66 :: blk k5 #[.string (strB (encPgF p).1)] 9 :: blk k3 (pgC p) 36 :: blk k2 #[.pointer (some ⟨q, 0, none⟩)] 27 :: X) → Value.int .i64 x = .int .i64 (savePg a p).2 ∧ Dr q (savePg a p).1 F w0 w' X :=
    fun a' x w' hs h' => by rw [hs]; exact ⟨rfl, h'.dropX.dropX.dropX.dropX⟩
  refine ⟨fun vs w' => ∃ (i : Nat) (x : Int) (a' : AD), vs = [.int .i64 x, .int .i64 (i : Int)] ∧ i ≤ 2 ∧ Dr q a' F w0 w' (blk k16 #[.func (.func 23) #[] #[.pointer (some ⟨k2, 0, none⟩), .pointer (some ⟨k5, 0, none⟩)], .func (.func 24) #[] #[.pointer (some ⟨k2, 0, none⟩)]] 66 :: blk k5 #[.string (strB (encPgF p).1)] 9 :: blk k3 (pgC p) 36 :: blk k2 #[.pointer (some ⟨q, 0, none⟩)] 27 :: X) ∧
      ((i = 0 ∧ a' = a ∧ x = (encPgF p).2) ∨ (i = 1 ∧ x = 0 ∧ p.bits.length = 8 ∧ a.put 2 (strB (encPg p)) = 0 ∧ a' = a.write 2 (strB (encPg p))) ∨ (1 ≤ i ∧ x ≠ 0 ∧ savePg a p = (a', x)) ∨ (i = 2 ∧ savePg a p = (a', x))), fun vs _ => match vs with | [_, .int _ i] => (2 - i).toNat | _ => 0, ⟨0, _, a, rfl, by omega, h6, .inl ⟨rfl, rfl, rfl⟩⟩, ?_⟩
  rintro vs w7 ⟨i, x, a', rfl, hi, h7, hc⟩
  refine ⟨_, _, rfl, dec_t fun hlt => ?_, dec_f fun hge => ?_⟩
  rotate_left
  · have hi2 : i = 2 := by omega
    rcases hc with ⟨h0, _⟩ | ⟨h0, _⟩ | ⟨_, _, hs⟩ | ⟨_, hs⟩
    · omega
    · omega
    · exact fin _ _ _ hs h7
    · exact fin _ _ _ hs h7
  have hms : ((2 : Int) - IntKind.i64.wrap ((i : Int) + 1)).toNat < ((2 : Int) - (i : Int)).toNat := by rw [wrap64 _ (by omega) (by omega)]; omega
  have hnx : IntKind.i64.wrap ((i : Int) + 1) = ((i + 1 : Nat) : Int) := by rw [wrap64 _ (by omega) (by omega)]; omega
  obtain ⟨c0, c1⟩ := f0 w7 ⟨a', h7⟩
  rcases hc with ⟨rfl, rfl, rfl⟩ | ⟨rfl, rfl, h8, hput, rfl⟩ | ⟨h1i, hx0, hs⟩ | ⟨rfl, hs⟩
  · refine ⟨⟨k16, 0, none⟩, rfl, by omega, by omega, _, by exact c0, ?_⟩
    by_cases h8 : p.bits.length = 8
    · have ee : encPgF p = (encPg p, 0) := if_pos h8
      rw [ee]
      refine yes rfl (CallF.func (by kernel_rfl) ?_)
      refine (pages_Save_1_calls (R := fun v w' => v = .int .i64 (a'.put 2 (strB (encPg p))) ∧ Dr q (a'.write 2 (strB (encPg p))) F w0 w' _) ?_).mono fun e w' ⟨v, he, hv, hd⟩ => ⟨a'.put 2 (strB (encPg p)), by rw [he, hv], ⟨_, _, _, by rw [hnx], by omega, hd, ?_⟩, hms⟩
      · unfold pages_Save_1
        rw [ee] at h7
        refine ⟨_, h7.under.ld (b := k2) (by repeat (first | exact List.Mem.head _ | refine List.Mem.tail _ ?_)) rfl, _, h7.under.ld (b := k5) (by repeat (first | exact List.Mem.head _ | refine List.Mem.tail _ ?_)) rfl, ?_⟩
        exact (write_a h7 hF' 2 (strB (encPg p))).mono fun e w' ⟨he, hd⟩ => ⟨_, he, rfl, hd⟩
      · by_cases hp : a'.put 2 (strB (encPg p)) = 0
        · exact .inr (.inl ⟨rfl, hp, h8, hp, rfl⟩)
        · refine .inr (.inr (.inl ⟨by omega, hp, ?_⟩))
          have hw : a'.write 2 (strB (encPg p)) = a' := by unfold AD.write; rw [if_pos hp]
          rw [hw]
          unfold savePg; rw [if_neg (by omega), if_pos hp]
    · have ee : encPgF p = ([], 1) := if_neg h8
      refine no (by rw [ee]; rfl) ⟨⟨_, _, _, by rw [hnx], by omega, h7, .inr (.inr (.inl ⟨by omega, by rw [ee]; decide, ?_⟩))⟩, hms⟩
      unfold savePg; rw [if_pos h8, ee]
  · refine ⟨⟨k16, 0, none⟩, rfl, by omega, by omega, _, by exact c1, yes rfl (CallF.func (by kernel_rfl) ?_)⟩
    have hFw : (a.write 2 (strB (encPg p))).Few 1000000 := hF.write _ _
    refine (pages_Save_2_calls (R := fun v w' => v = .int .i64 (a.write 2 (strB (encPg p))).flush1 ∧ Dr q (a.write 2 (strB (encPg p))).flush F w0 w' _) ?_).mono fun e w' ⟨v, he, hv, hd⟩ => ⟨(a.write 2 (strB (encPg p))).flush1, by rw [he, hv], ⟨_, _, _, by rw [hnx], by omega, hd, .inr (.inr (.inr ⟨rfl, ?_⟩))⟩, hms⟩
    · unfold pages_Save_2
      refine ⟨_, h7.under.ld (b := k2) (by repeat (first | exact List.Mem.head _ | refine List.Mem.tail _ ?_)) rfl, ?_⟩
      exact (flush_a h7 hFw).mono fun e w' ⟨he, hd⟩ => ⟨_, he, rfl, hd⟩
    · unfold savePg; rw [if_neg (by omega), if_neg (by omega)]
  · have hi1 : i = 1 := by omega
    subst hi1
    refine ⟨⟨k16, 0, none⟩, rfl, by omega, by omega, _, by exact c1, no (by simpa using hx0) ⟨⟨_, _, _, by rw [hnx], by omega, h7, .inr (.inr (.inl ⟨by omega, hx0, hs⟩))⟩, hms⟩⟩
  · omega
end
end Go.Proofs.YtmipjkalfodcpaaGreatDoor
end
section
/-! pages: drives, All, Join. -/
namespace Go.Proofs.YtmipjkalfodcpaaGreatDoor
open Go.Sh Go.RowKit
set_option linter.unusedVariables false
set_option linter.unusedSimpArgs false
set_option maxRecDepth 20000
set_option maxHeartbeats 1000000
section
variable {F : List Nat} {w0 : World}
theorem drives1_spec {ps : List (Option Nat)} {g : Option Nat} {cap c k1 : Nat} {h : Nat → Kd} {X : Nat → List A} {x y : A} {yv : Value} (hl : ps.length ≤ 1000000)
    (hm1 : ∀ k, blk k1 #[.slice (ptr g) ps.length c] 25 ∈ X k) (hm2 : ∀ k, rowP 27 1 g ps.length cap (ptrsV ps) ∈ X k)
    (hskip : ∀ k W, ps[k]? = some none → Ow (h k) F w0 W (x :: y :: X k) → Ow (h (k + 1)) F w0 W (x :: y :: X (k + 1)))
    (hcall : ∀ k W, (∃ b, ps[k]? = some (some b)) → Ow (h k) F w0 W (x :: y :: X k) → CallF Tryz.prog yv [pv (ps.getD k none)] W fun e w' => e = .returned (.bool true) ∧ Ow (h (k + 1)) F w0 w' (x :: y :: X (k + 1)))
    (W : World) (H : Ow (h 0) F w0 W (x :: y :: X 0)) : Calls Tryz.prog 47 #[yv, .pointer (some ⟨k1, 0, none⟩)] W fun e w' => (∃ v, e = .returned v) ∧ Ow (h ps.length) F w0 w' (x :: y :: X ps.length) := by
  refine (pages_drives_1_calls (R := fun v w' => Ow (h ps.length) F w0 w' (x :: y :: X ps.length)) ?_).mono fun e w' ⟨v, he, h⟩ => ⟨⟨v, he⟩, h⟩
  unfold pages_drives_1
  have inX : ∀ {k : Nat} {a : A}, a ∈ X k → a ∈ x :: y :: X k := fun ha => List.mem_cons_of_mem _ (List.mem_cons_of_mem _ ha)
  refine ⟨_, _, _, H.ld (b := k1) (inX (hm1 0)) rfl, ?_⟩
  refine ⟨fun vs w' => ∃ k : Nat, vs = [.int .i64 (k : Int)] ∧ k ≤ ps.length ∧ Ow (h k) F w0 w' (x :: y :: X k), fun vs _ => match vs with | [.int _ k] => (ps.length - k).toNat | _ => 0, ⟨0, rfl, by omega, H⟩, ?_⟩
  rintro vs w1 ⟨k, rfl, hk, h1⟩
  refine ⟨_, rfl, dec_t fun hlt => ?_, dec_f fun hge => ?_⟩
  · have hlt : k < ps.length := by omega
    have hms : ((ps.length : Int) - IntKind.i64.wrap ((k : Int) + 1)).toNat < ((ps.length : Int) - (k : Int)).toNat := by rw [wrap64 _ (by omega) (by omega)]; omega
    have hnx : IntKind.i64.wrap ((k : Int) + 1) = ((k + 1 : Nat) : Int) := by rw [wrap64 _ (by omega) (by omega)]; omega
    obtain ⟨b, rfl, hc⟩ := Ow.pcell h1 (inX (hm2 k)) hlt
    have hg : ps[k]? = some (ps.getD k none) := by simp [List.getD, hlt]
    refine ⟨⟨b, 0, none⟩, rfl, by omega, by omega, _, by rw [Int.toNat_natCast]; exact hc, ?_⟩
    cases hx : ps.getD k none with
    | none =>
      rw [hx] at hg
      exact no rfl ⟨⟨k + 1, by rw [hnx], by omega, hskip k w1 hg h1⟩, hms⟩
    | some d =>
      have hcl := hcall k w1 ⟨d, by rw [hg, hx]⟩ h1
      rw [hx] at hcl
      refine yes rfl (CallF.mono hcl fun e w2 ⟨he, h2⟩ => ⟨true, he, no rfl ⟨⟨k + 1, by rw [hnx], by omega, h2⟩, hms⟩⟩)
  · have hke : k = ps.length := by omega
    subst hke
    exact h1
theorem drives_spec {h : Kd} {p : Option Addr} {n c : Nat} {w : World} {X : List A} (H : Ow h F w0 w X) : Calls Tryz.prog 33 #[.slice p n c] w fun e w' => ∃ k1, e = .returned (.func (.func 47) #[] #[.pointer (some ⟨k1, 0, none⟩)]) ∧ Ow h F w0 w' (blk k1 #[.slice p n c] 25 :: X) := by
  refine (pages_drives_calls (R := fun v w' => ∃ k1, v = .func (.func 47) #[] #[.pointer (some ⟨k1, 0, none⟩)] ∧ Ow h F w0 w' (blk k1 #[.slice p n c] 25 :: X)) ?_).mono fun e w' ⟨v, he, k1, hv, h⟩ => ⟨k1, by rw [he, hv], h⟩
  unfold pages_drives
  exact H.alloc fun k1 w1 h1 => ⟨k1, rfl, h1⟩
end
/-- a page is saved on a drive, if there is one -/
def svPg (p : PgV) : Od → Od
  | none => none
  | some (q, a) => some (q, (savePg a p).1)
def okPg (p : PgV) : Od → Bool
  | none => false
  | some (q, a) => (savePg a p).2 == 0
/-- on the first k of them -/
def svPgs (p : PgV) (l : List Od) (k : Nat) : List Od := (l.take k).map (svPg p) ++ l.drop k
def cntPg (p : PgV) (l : List Od) (k : Nat) : Nat := ((l.take k).filter (okPg p)).length
theorem svPgs_len (p : PgV) (l : List Od) (k : Nat) : (svPgs p l k).length = l.length := by simp [svPgs]; omega
theorem svPgs_get (p : PgV) (l : List Od) (k : Nat) : (svPgs p l k)[k]? = l[k]? := by
  unfold svPgs
  by_cases hk : k < l.length
  · rw [List.getElem?_append_right (by simp; omega)]
    simp [Nat.min_eq_left (Nat.le_of_lt hk)]
  · rw [List.getElem?_eq_none (l := l) (by omega)]
    exact List.getElem?_eq_none (by simp; omega)
theorem svPgs_next (p : PgV) {l : List Od} {k : Nat} {x : Od} (h : l[k]? = some x) : (svPgs p l k).set k (svPg p x) = svPgs p l (k + 1) := by
  obtain ⟨hk, he⟩ := List.getElem?_eq_some_iff.1 h
  unfold svPgs
  rw [List.set_append_right _ _ (by simp; omega)]
  have : k - ((l.take k).map (svPg p)).length = 0 := by simp; omega
  rw [this, List.drop_eq_getElem_cons hk, List.set_cons_zero, List.take_add_one, h, List.map_append, List.append_assoc]
  rfl
theorem svPgs_skip (p : PgV) {l : List Od} {k : Nat} (h : l[k]? = some none) : svPgs p l (k + 1) = svPgs p l k := by
  rw [← svPgs_next p h]
  exact set_get_same (by rw [svPgs_get]; exact h)
theorem svPgs_zero (p : PgV) (l : List Od) : svPgs p l 0 = l := by simp [svPgs]
theorem svPgs_all (p : PgV) (l : List Od) : svPgs p l l.length = l.map (svPg p) := by simp [svPgs]
theorem cntPg_next (p : PgV) {l : List Od} {k : Nat} {x : Od} (h : l[k]? = some x) : cntPg p l (k + 1) = cntPg p l k + if okPg p x = true then 1 else 0 := by
  unfold cntPg
  rw [List.take_add_one, h, List.filter_append, List.length_append]
  congr 1
  show (List.filter (okPg p) [x]).length = _
  cases hx : okPg p x <;> simp [List.filter, hx]
theorem cntPg_le (p : PgV) (l : List Od) (k : Nat) : cntPg p l k ≤ l.length := by
  unfold cntPg
  exact Nat.le_trans (List.length_filter_le _ _) (by simp; omega)
theorem blks_sv (p : PgV) (l : List Od) (k : Nat) : blks (svPgs p l k) = blks l := by
  have h1 : ∀ x : Od, odB (svPg p x) = odB x := fun x => by cases x <;> rfl
  unfold svPgs blks
  rw [List.map_append, List.map_map]
  have : (odB ∘ svPg p) = odB := by funext x; exact h1 x
  rw [this, ← List.map_append, List.take_append_drop]
def allPg (p : PgV) (l : List Od) : List Od × Int × Int :=
  if p.bits.length = 8 then (l.map (svPg p), (cntPg p l l.length : Int), if cntPg p l l.length = 0 then 60 else 0) else (l, 0, 1)
section
variable {F : List Nat} {w0 : World}
theorem pall_spec {l : List Od} {g : Option Nat} {cap c : Nat} {p : PgV} (hl : l.length ≤ 1000000) (he : p.ev < 2 ^ 64) (hb : p.bits.length ≤ 1000000) (hF : FewL l 999999) {w : World} {X : List A} (H : Ow (dsK l) F w0 w X) (hm : rowP 27 1 g l.length cap (ptrsV (blks l)) ∈ X) :
    Calls Tryz.prog 15 #[.slice (ptr g) l.length c, .agg (pgC p)] w fun e w' => e = .returned (.tuple #[.int .i64 (allPg p l).2.1, .int .i64 (allPg p l).2.2]) ∧ Ow (dsK (allPg p l).1) F w0 w' X := by
  refine (pages_All_calls (R := fun v w' => v = .tuple #[.int .i64 (allPg p l).2.1, .int .i64 (allPg p l).2.2] ∧ Ow (dsK (allPg p l).1) F w0 w' X) ?_).mono fun e w' ⟨v, he, hv, h⟩ => ⟨by rw [he, hv], h⟩
  unfold pages_All
  refine H.alloc fun k3 w1 h1 => ⟨_, _, ⟨h1.ld (b := k3) (c := pgC p) (by repeat (first | exact List.Mem.head _ | refine List.Mem.tail _ ?_)) rfl, h1.ld (b := k3) (c := pgC p) (i := 1) (by repeat (first | exact List.Mem.head _ | refine List.Mem.tail _ ?_)) rfl⟩, ?_⟩
  refine (pencode_spec he hb w1).mono fun e w2 ⟨he2, hx2⟩ => ⟨_, _, he2, ?_⟩
  have h2 := h1.quiet hx2
  by_cases h8 : p.bits.length = 8
  rotate_left
  · have e1 : encPgF p = ([], 1) := if_neg h8
    have e2 : allPg p l = (l, 0, 1) := if_neg h8
    rw [e1, e2]
    exact yes rfl ⟨rfl, h2.dropX⟩
  have e1 : encPgF p = (encPg p, 0) := if_pos h8
  have e2 : allPg p l = (l.map (svPg p), (cntPg p l l.length : Int), if cntPg p l l.length = 0 then 60 else 0) := if_pos h8
  rw [e1, e2]
  refine no rfl (h2.alloc fun k8 w3 h3 => h3.st (c' := #[.int .i64 0]) .head (show 0 < 1 by decide) rfl rfl fun w4 h4 => ?_)
  refine (drives_spec h4).mono fun e w5 ⟨k1, he5, h5⟩ => ⟨_, he5, ?_⟩
  have h5 : Ow (dsK (svPgs p l 0)) F w0 w5 (blk k1 #[.slice (ptr g) l.length c] 25 :: blk k8 #[.int .i64 (cntPg p l 0 : Int)] 3 :: blk k3 (pgC p) 36 :: X) := by rw [svPgs_zero]; exact h5
  have hbl := blks_len l
  refine RangeO.t (by kernel_rfl) (ok := fun k => ∃ b, (blks l)[k]? = some (some b)) (h := fun k => dsK (svPgs p l k)) (X := fun k => blk k1 #[.slice (ptr g) l.length c] 25 :: blk k8 #[.int .i64 (cntPg p l k : Int)] 3 :: blk k3 (pgC p) 36 :: X) (N := l.length) (arg := fun k => [pv ((blks l).getD k none)]) h5 ?_ ?_ ?_
  · intro yv x y hyes W hW
    have := drives1_spec (F := F) (w0 := w0) (ps := blks l) (g := g) (cap := cap) (c := c) (k1 := k1) (h := fun k => dsK (svPgs p l k)) (X := fun k => blk k1 #[.slice (ptr g) l.length c] 25 :: blk k8 #[.int .i64 (cntPg p l k : Int)] 3 :: blk k3 (pgC p) 36 :: X) (x := x) (y := y) (yv := yv) (by omega)
      (fun k => by rw [hbl]; exact List.mem_cons_self) (fun k => by rw [hbl]; exact List.mem_cons_of_mem _ (List.mem_cons_of_mem _ (List.mem_cons_of_mem _ hm))) (fun k W hn h => ?_) (fun k W hk h => hyes k W hk h) W hW
    · rw [hbl] at this; exact this
    · have hln : l[k]? = some none := by
        unfold blks at hn
        rw [List.getElem?_map] at hn
        cases hx : l[k]? with
        | none => rw [hx] at hn; cases hn
        | some x =>
          rw [hx] at hn
          cases x with
          | none => rfl
          | some y => cases hn
      have hc : cntPg p l (k + 1) = cntPg p l k := by rw [cntPg_next p hln]; rfl
      rw [svPgs_skip p hln, hc]; exact h
  · rintro obf ll d k W Φ ⟨b, hk⟩ hW hΦ
    obtain ⟨a, hla⟩ : ∃ a, l[k]? = some (some (b, a)) := by
      unfold blks at hk
      rw [List.getElem?_map] at hk
      cases hx : l[k]? with
      | none => rw [hx] at hk; cases hk
      | some x =>
        rw [hx] at hk
        cases x with
        | none => cases hk
        | some y =>
          have : y.1 = b := by simpa [odB] using hk
          exact ⟨y.2, by rw [← this]⟩
    have hgd : (blks l).getD k none = some b := by rw [List.getD_eq_getElem?_getD, hk]; rfl
    rw [hgd]
    refine ⟨_, rfl, RoundO.t hW (h' := dsK (svPgs p l (k + 1))) (X' := ob d (.deferred (some [])) :: blk k1 #[.slice (ptr g) l.length c] 25 :: blk k8 #[.int .i64 (cntPg p l (k + 1) : Int)] 3 :: blk k3 (pgC p) 36 :: X) hΦ ?_⟩
    intro K B R w6 h6 hK
    refine ⟨_, _, ⟨h6.ld (b := k3) (c := pgC p) (by repeat (first | exact List.Mem.head _ | refine List.Mem.tail _ ?_)) rfl, h6.ld (b := k3) (c := pgC p) (i := 1) (by repeat (first | exact List.Mem.head _ | refine List.Mem.tail _ ?_)) rfl⟩, ?_⟩
    have hFa : a.Few 999999 := hF b a (List.mem_of_getElem? hla)
    refine (Ow.onDrive (k := k) (p := b) (a := a) (b := (savePg a p).1) (v := .int .i64 (savePg a p).2) h6 (by rw [svPgs_get]; exact hla) fun Z hZ => psave_d hZ hFa he hb).mono fun e w7 ⟨he7, h7⟩ => ⟨_, he7, ?_⟩
    have hnx := svPgs_next p hla
    have e7 : (svPgs p l k).set k (some (b, (savePg a p).1)) = svPgs p l (k + 1) := hnx
    rw [e7] at h7
    have hcn := cntPg_next p hla
    have hcl := cntPg_le p l k
    by_cases h0 : (savePg a p).2 = 0
    · have ok : okPg p (some (b, a)) = true := by simp [okPg, h0]
      rw [if_pos ok] at hcn
      rw [h0]
      refine yes rfl ⟨_, h7.ld (b := k8) (by repeat (first | exact List.Mem.head _ | refine List.Mem.tail _ ?_)) rfl, h7.st (c := #[.int .i64 (cntPg p l k : Int)]) (c' := #[.int .i64 (cntPg p l (k + 1) : Int)]) (by repeat (first | exact Turn.head | apply Turn.tail)) (show 0 < 1 by decide) ?_ rfl fun w8 h8 => hK w8 h8⟩
      rw [hcn, wrap64 _ (by omega) (by omega)]; rfl
    · have ok : ¬ okPg p (some (b, a)) = true := by simp [okPg, h0]
      rw [if_neg ok] at hcn
      refine no (by simpa using h0) (hK w7 ?_)
      rw [hcn]; exact h7
  · intro d w9 h9
    refine ⟨_, h9.ld (b := k8) (by repeat (first | exact List.Mem.head _ | refine List.Mem.tail _ ?_)) rfl, ?_⟩
    rw [svPgs_all] at h9
    by_cases hc : cntPg p l l.length = 0
    · rw [hc] at h9 ⊢
      exact yes rfl ⟨h9.got List.mem_cons_self, rfl, h9.putTop.dropX.dropX.dropX.dropX⟩
    · rw [if_neg hc]
      exact no (by simpa using hc) ⟨_, h9.ld (b := k8) (by repeat (first | exact List.Mem.head _ | refine List.Mem.tail _ ?_)) rfl, h9.got List.mem_cons_self, rfl, h9.putTop.dropX.dropX.dropX.dropX⟩
end
end Go.Proofs.YtmipjkalfodcpaaGreatDoor
end
section
/-! pages: Join. -/
namespace Go.Proofs.YtmipjkalfodcpaaGreatDoor
open Go.Sh Go.RowKit
set_option linter.unusedVariables false
set_option linter.unusedSimpArgs false
set_option maxRecDepth 20000
set_option maxHeartbeats 1000000
theorem u8_or (x y : UInt8) : bits2 .or .u8 (x.toNat : Int) (y.toNat : Int) = ((x ||| y).toNat : Int) := by
  have hx := x.toNat_lt; have hy := y.toNat_lt
  unfold bits2
  simp only [IntKind.bits]
  rw [show BitVec.ofInt 8 ((x.toNat : Nat) : Int) = BitVec.ofNat 8 x.toNat by simp, show BitVec.ofInt 8 ((y.toNat : Nat) : Int) = BitVec.ofNat 8 y.toNat by simp]
  have : ((BitVec.ofNat 8 x.toNat ||| BitVec.ofNat 8 y.toNat).toNat) = (x ||| y).toNat := by
    rw [BitVec.toNat_or, BitVec.toNat_ofNat, BitVec.toNat_ofNat, UInt8.toNat_or, Nat.mod_eq_of_lt hx, Nat.mod_eq_of_lt hy]
  have h2 := (x ||| y).toNat_lt
  show IntKind.u8.wrap (((BitVec.ofNat 8 x.toNat ||| BitVec.ofNat 8 y.toNat).toNat : Nat) : Int) = _
  rw [this, wrap8]
  omega
/-- eight bytes, or'd up to a place -/
def orI (a b : List UInt8) (i : Nat) : List UInt8 := (List.range 8).map fun j => if j < i then a.getD j 0 ||| b.getD j 0 else a.getD j 0
def orL (a b : List UInt8) : List UInt8 := (List.range 8).map fun j => a.getD j 0 ||| b.getD j 0
theorem orI_len (a b : List UInt8) (i : Nat) : (orI a b i).length = 8 := by simp [orI]
theorem orL_len (a b : List UInt8) : (orL a b).length = 8 := by simp [orL]
theorem orI_get (a b : List UInt8) (i : Nat) {j : Nat} (hj : j < 8) : (orI a b i)[j]? = some (if j < i then a.getD j 0 ||| b.getD j 0 else a.getD j 0) := by simp [orI, hj]
theorem orL_get (a b : List UInt8) {j : Nat} (hj : j < 8) : (orL a b).getD j 0 = a.getD j 0 ||| b.getD j 0 := by simp [orL, List.getD, hj]
theorem orI_zero {a : List UInt8} (h : a.length = 8) (b : List UInt8) : orI a b 0 = a := by
  apply List.ext_getElem?
  intro j
  by_cases hj : j < 8
  · rw [orI_get a b 0 hj, if_neg (by omega)]
    simp [List.getD, show j < a.length by omega]
  · rw [List.getElem?_eq_none (by rw [orI_len]; omega), List.getElem?_eq_none (by omega)]
theorem orI_all (a b : List UInt8) : orI a b 8 = orL a b := by
  unfold orI orL
  apply List.map_congr_left
  intro j hj
  rw [if_pos (by simpa using hj)]
theorem orI_next (a b : List UInt8) {i : Nat} (hi : i < 8) : (orI a b i).set i (a.getD i 0 ||| b.getD i 0) = orI a b (i + 1) := by
  apply List.ext_getElem?
  intro j
  by_cases hj : j < 8
  · rw [orI_get a b (i + 1) hj, List.getElem?_set, orI_get a b i hj, orI_len]
    by_cases e : i = j
    · subst e; rw [if_pos rfl, if_pos hi, if_pos (by omega)]
    · rw [if_neg e]
      by_cases h : j < i
      · rw [if_pos h, if_pos (by omega)]
      · rw [if_neg h, if_neg (by omega)]
  · rw [List.getElem?_eq_none (by rw [List.length_set, orI_len]; omega), List.getElem?_eq_none (by rw [orI_len]; omega)]
theorem bvals_cells (l : List UInt8) {j : Nat} {x : UInt8} (h : l[j]? = some x) : (bvals l).toArray[j]? = some (.int .u8 (x.toNat : Int)) := by simp [bvals, h]
theorem bvals_setA (l : List UInt8) (j : Nat) (x : UInt8) : (bvals l).toArray.setIfInBounds j (.int .u8 (x.toNat : Int)) = (bvals (l.set j x)).toArray := by simp [bvals, List.map_set]
/-- what is joined so far -/
def jnA (n : Nat) (s : List UInt8 × Bool) (a : AD) : List UInt8 × Bool := if (loadPg a).2 ≠ 0 ∨ (loadPg a).1.ev < n then s else (orL s.1 (loadPg a).1.bits, true)
def jnPg (n : Nat) (s : List UInt8 × Bool) : Od → List UInt8 × Bool
  | none => s
  | some (q, a) => jnA n s a
def jnPgs (n : Nat) (l : List Od) (k : Nat) : List UInt8 × Bool := (l.take k).foldl (jnPg n) (List.replicate 8 0, false)
theorem jnPgs_next (n : Nat) {l : List Od} {k : Nat} {x : Od} (h : l[k]? = some x) : jnPgs n l (k + 1) = jnPg n (jnPgs n l k) x := by
  unfold jnPgs
  rw [List.take_add_one, h, List.foldl_append]; rfl
theorem jnPg_len (n : Nat) {s : List UInt8 × Bool} (h : s.1.length = 8) (x : Od) : (jnPg n s x).1.length = 8 := by
  cases x with
  | none => exact h
  | some y =>
    show (jnA n s y.2).1.length = 8
    unfold jnA
    split
    · exact h
    · exact orL_len _ _
theorem jnPgs_len (n : Nat) (l : List Od) : ∀ k, (jnPgs n l k).1.length = 8 := by
  have : ∀ (m : List Od) (s : List UInt8 × Bool), s.1.length = 8 → (m.foldl (jnPg n) s).1.length = 8 := by
    intro m
    induction m with
    | nil => intro s h; exact h
    | cons x m ih => intro s h; exact ih _ (jnPg_len n h x)
  exact fun k => this _ _ (by simp)
theorem loadPg_bits {a : AD} (h : (loadPg a).2 = 0) : (loadPg a).1.bits.length = 8 := by
  unfold loadPg at h ⊢
  split at h
  · rename_i h1; exact absurd h h1
  · rename_i h1
    rw [if_neg h1]; exact decPg_bits h
theorem loadPg_ev (a : AD) : (loadPg a).1.ev < 2 ^ 64 := by
  unfold loadPg
  split
  · show 0 < _; decide
  · exact decPg_ev _
theorem joined_none {l : List Od} {k : Nat} (h : (blks l)[k]? = some none) : l[k]? = some none := by
  unfold blks at h
  rw [List.getElem?_map] at h
  cases hx : l[k]? with
  | none => rw [hx] at h; cases h
  | some x =>
    rw [hx] at h
    cases x with
    | none => rfl
    | some y => cases h
theorem joined_some {l : List Od} {k b : Nat} (h : (blks l)[k]? = some (some b)) : ∃ a, l[k]? = some (some (b, a)) := by
  unfold blks at h
  rw [List.getElem?_map] at h
  cases hx : l[k]? with
  | none => rw [hx] at h; cases h
  | some x =>
    rw [hx] at h
    cases x with
    | none => cases h
    | some y =>
      have : y.1 = b := by simpa [odB] using h
      exact ⟨y.2, by rw [← this]⟩
section
variable {F : List Nat} {w0 : World}
theorem pjoin_spec {l : List Od} {g : Option Nat} {cap c n : Nat} (hl : l.length ≤ 1000000) (hF : FewL l 1000000) {w : World} {X : List A} (H : Ow (dsK l) F w0 w X) (hm : rowP 27 1 g l.length cap (ptrsV (blks l)) ∈ X) :
    Calls Tryz.prog 20 #[.slice (ptr g) l.length c, .int .u64 (n : Int)] w fun e w' => e = .returned (.tuple #[.string (strB (jnPgs n l l.length).1), .bool (jnPgs n l l.length).2]) ∧ Ow (dsK l) F w0 w' X := by
  refine (pages_Join_calls (R := fun v w' => v = .tuple #[.string (strB (jnPgs n l l.length).1), .bool (jnPgs n l l.length).2] ∧ Ow (dsK l) F w0 w' X) ?_).mono fun e w' ⟨v, he, hv, h⟩ => ⟨by rw [he, hv], h⟩
  unfold pages_Join
  refine H.alloc fun k3 w1 h1 => h1.alloc fun k6 w2 h2 => h2.alloc fun k7 w3 h3 => h3.st (c := #[.bool false]) (c' := #[.bool false]) .head (show 0 < 1 by decide) rfl rfl fun w4 h4 => ?_
  refine (drives_spec h4).mono fun e w5 ⟨k1, he5, h5⟩ => ⟨_, he5, ?_⟩
  have hbl := blks_len l
  refine RangeO.t (by kernel_rfl) (ok := fun k => ∃ b, (blks l)[k]? = some (some b)) (h := fun k => dsK l) (X := fun k => blk k1 #[.slice (ptr g) l.length c] 25 :: blk k7 #[.bool (jnPgs n l k).2] 4 :: blk k6 (bvals (jnPgs n l k).1).toArray 79 :: blk k3 #[.int .u64 (n : Int)] 23 :: X) (N := l.length) (arg := fun k => [pv ((blks l).getD k none)]) h5 ?_ ?_ ?_
  · intro yv x y hyes W hW
    have := drives1_spec (F := F) (w0 := w0) (ps := blks l) (g := g) (cap := cap) (c := c) (k1 := k1) (h := fun k => dsK l) (X := fun k => blk k1 #[.slice (ptr g) l.length c] 25 :: blk k7 #[.bool (jnPgs n l k).2] 4 :: blk k6 (bvals (jnPgs n l k).1).toArray 79 :: blk k3 #[.int .u64 (n : Int)] 23 :: X) (x := x) (y := y) (yv := yv) (by omega)
      (fun k => by rw [hbl]; exact List.mem_cons_self) (fun k => by rw [hbl]; exact List.mem_cons_of_mem _ (List.mem_cons_of_mem _ (List.mem_cons_of_mem _ (List.mem_cons_of_mem _ hm)))) (fun k W hn h => ?_) (fun k W hk h => hyes k W hk h) W hW
    · rw [hbl] at this; exact this
    · have hc : jnPgs n l (k + 1) = jnPgs n l k := jnPgs_next n (joined_none hn)
      rw [hc]; exact h
  · rintro obf ll d k W Φ ⟨b, hk⟩ hW hΦ
    obtain ⟨a, hla⟩ := joined_some hk
    have hgd : (blks l).getD k none = some b := by rw [List.getD_eq_getElem?_getD, hk]; rfl
    rw [hgd]
    refine ⟨_, rfl, RoundO.t hW (h' := dsK l) (X' := ob d (.deferred (some [])) :: blk k1 #[.slice (ptr g) l.length c] 25 :: blk k7 #[.bool (jnPgs n l (k + 1)).2] 4 :: blk k6 (bvals (jnPgs n l (k + 1)).1).toArray 79 :: blk k3 #[.int .u64 (n : Int)] 23 :: X) hΦ ?_⟩
    intro K B R w6 h6 hK
    have hFa : a.Few 1000000 := hF b a (List.mem_of_getElem? hla)
    have hnx := jnPgs_next n hla
    have hb8 := jnPgs_len n l k
    generalize jnPgs n l (k + 1) = s' at hnx hK
    generalize jnPgs n l k = s at hnx h6 hb8
    obtain ⟨Z, hZ, _⟩ := Ow.drive (k := k) h6 hla
    refine (pload_spec hZ hFa (Nat.le_trans (hZ.read_size 2) (by decide))).mono fun e w7 ⟨he7, hx7⟩ => ⟨_, _, _, he7, ?_⟩
    refine (h6.quiet hx7).alloc fun k9 w8 h8 => h8.st (c := pgC pgZ) (c' := #[.int .u64 ((loadPg a).1.ev : Int), .string (ByteArray.mk #[])]) .head (show 0 < 2 by decide) rfl rfl fun w9 h9 => h9.st (c' := pgC (loadPg a).1) .head (show 1 < 2 by decide) rfl rfl fun w10 h10 => ?_
    refine ⟨bne_t fun hne => ?_, bne_f fun heq => ?_⟩
    · have : s' = s := by rw [hnx]; show jnA n s a = _; unfold jnA; rw [if_pos (.inl hne)]
      subst this
      exact hK w10 h10.dropX
    refine ⟨_, h10.ld (b := k9) (c := pgC (loadPg a).1) (by repeat (first | exact List.Mem.head _ | refine List.Mem.tail _ ?_)) rfl, _, h10.ld (b := k3) (by repeat (first | exact List.Mem.head _ | refine List.Mem.tail _ ?_)) rfl, dec_t fun hlt => ?_, dec_f fun hge => ?_⟩
    · have : s' = s := by rw [hnx]; show jnA n s a = _; unfold jnA; rw [if_pos (.inr (by omega))]
      subst this
      exact hK w10 h10.dropX
    have hs' : s' = (orL s.1 (loadPg a).1.bits, true) := by rw [hnx]; show jnA n s a = _; unfold jnA; rw [if_neg (by omega)]
    have hbits := loadPg_bits heq
    refine h10.st (c := #[.bool s.2]) (c' := #[.bool true]) (by repeat (first | exact Turn.head | apply Turn.tail)) (show 0 < 1 by decide) rfl rfl fun w11 h11 => ?_
    refine ⟨fun vs w' => ∃ i : Nat, vs = [.int .i64 (i : Int)] ∧ i ≤ 8 ∧ Ow (dsK l) F w0 w' (blk k9 (pgC (loadPg a).1) 36 :: ob ll (obf .busy none) :: ob d (.deferred (some [])) :: blk k1 #[.slice (ptr g) l.length c] 25 :: blk k7 #[.bool true] 4 :: blk k6 (bvals (orI s.1 (loadPg a).1.bits i)).toArray 79 :: blk k3 #[.int .u64 (n : Int)] 23 :: X), fun vs _ => match vs with | [.int _ i] => (8 - i).toNat | _ => 0, ⟨0, rfl, by omega, by rw [orI_zero hb8]; exact h11⟩, ?_⟩
    rintro vs w12 ⟨i, rfl, hi, h12⟩
    refine ⟨_, rfl, dec_t fun hlt => ?_, dec_f fun hge => ?_⟩
    · have hlt : i < 8 := by omega
      refine ⟨fun w' => Ow (dsK l) F w0 w' (blk k9 (pgC (loadPg a).1) 36 :: ob ll (obf .busy none) :: ob d (.deferred (some [])) :: blk k1 #[.slice (ptr g) l.length c] 25 :: blk k7 #[.bool true] 4 :: blk k6 (bvals (orI s.1 (loadPg a).1.bits i)).toArray 79 :: blk k3 #[.int .u64 (n : Int)] 23 :: X), h12.drew, by omega, by omega, ((s.1.getD i 0).toNat : Int), fun w' h' => ?_, strB (loadPg a).1.bits, fun w' h' => h'.ld (b := k9) (c := pgC (loadPg a).1) (i := 1) (by repeat (first | exact List.Mem.head _ | refine List.Mem.tail _ ?_)) rfl, (((loadPg a).1.bits.getD i 0).toNat : Int), fun w' _ => ?_, by omega, by omega, ?_⟩
      · rw [addr_add, Nat.zero_add, Nat.mul_one, Int.toNat_natCast]
        refine h'.ld (b := k6) (by repeat (first | exact List.Mem.head _ | refine List.Mem.tail _ ?_)) (bvals_cells _ ?_)
        rw [orI_get _ _ _ hlt, if_neg (by omega)]
      · have := index_str (P := Tryz.prog) (t := 9) (k := .i64) (n := (i : Int)) (s := strB (loadPg a).1.bits) (w := w') (by kernel_rfl) (by omega) (by rw [strB_size]; omega)
        rw [Int.toNat_natCast] at this
        exact this
      · rw [u8_or, addr_add, Nat.zero_add, Nat.mul_one, Int.toNat_natCast]
        refine h12.drew.st (c' := (bvals (orI s.1 (loadPg a).1.bits (i + 1))).toArray) (by repeat (first | exact Turn.head | apply Turn.tail)) (by simp [bvals_len, orI_len]; omega) (by rw [bvals_setA, orI_next _ _ hlt]) rfl fun w13 h13 => ⟨⟨i + 1, ?_, by omega, h13⟩, ?_⟩
        · rw [wrap64 _ (by omega) (by omega)]; rfl
        · show ((8 : Int) - IntKind.i64.wrap ((i : Int) + 1)).toNat < ((8 : Int) - (i : Int)).toNat
          rw [wrap64 _ (by omega) (by omega)]; omega
    · obtain rfl : i = 8 := by omega
      rw [orI_all] at h12
      refine hK w12 ?_
      rw [hs']
      exact h12.dropX
  · intro d w9 h9
    have h8 := jnPgs_len n l l.length
    generalize jnPgs n l l.length = s at h9 h8
    refine ⟨fun w' => Ow (dsK l) F w0 w' (ob d (.deferred (some [])) :: blk k1 #[.slice (ptr g) l.length c] 25 :: blk k7 #[.bool s.2] 4 :: blk k6 (bvals s.1).toArray 79 :: blk k3 #[.int .u64 (n : Int)] 23 :: X), h9.drew, some ⟨k6, 0, none⟩, 8, 8, fun w' _ => by kernel_rfl, strB s.1, fun w' h' => ?_, s.2, fun w' h' => h'.ld (b := k7) (by repeat (first | exact List.Mem.head _ | refine List.Mem.tail _ ?_)) rfl, h9.drew.got List.mem_cons_self, rfl, h9.drew.putTop.dropX.dropX.dropX.dropX.dropX⟩
    have h1 := run_convert_bytes_back (P := Tryz.prog) w' 80 9 5 ⟨k6, 0, none⟩ 8 s.1 (by kernel_rfl) (by kernel_rfl) (by kernel_rfl) (fun j hj => by
      rw [addr_add, Nat.zero_add]
      refine h'.ld (b := k6) (by repeat (first | exact List.Mem.head _ | refine List.Mem.tail _ ?_)) (bvals_cells _ ?_)
      rw [List.getElem?_eq_getElem hj])
    rw [h8] at h1
    exact h1
end
end Go.Proofs.YtmipjkalfodcpaaGreatDoor
end
section
/-! law11: bits, shown; PagesAll. -/
namespace Go.Proofs.YtmipjkalfodcpaaGreatDoor
open Go.Sh Go.RowKit
set_option linter.unusedVariables false
set_option linter.unusedSimpArgs false
set_option maxRecDepth 20000
set_option maxHeartbeats 1000000
def bitsF (l : List UInt8) : List UInt8 := (l ++ List.replicate 8 0).take 8
theorem bitsF_len (l : List UInt8) : (bitsF l).length = 8 := by simp [bitsF]
theorem bits_spec (l : List UInt8) (hl : l.length ≤ 1000000) (w : World) : Ret Tryz.prog 17 #[.string (strB l)] w (.string (strB (bitsF l))) := by
  refine ret_of (revetmentlaw11_bits_calls ?_)
  unfold revetmentlaw11_bits
  have e8 : (ByteArray.mk #[0, 0, 0, 0, 0, 0, 0, 0]) = strB (List.replicate 8 0) := rfl
  rw [e8, strB_size, strB_size, strB_append]
  have hsl := slice_to (P := Tryz.prog) (t := 9) (k := .i64) (s := strB (l ++ List.replicate 8 0)) (hi := 8) (w := w) (by kernel_rfl) (by omega) (by rw [strB_size]; simp; omega)
  rw [strB_extract, List.drop_zero] at hsl
  refine ⟨by rw [List.length_replicate]; omega, _, w, hsl, rfl, Ext.refl w⟩
theorem savePg_on {a : AD} {n : Nat} (h : a.On n) (hn : 3 ≤ n) {p : PgV} (hb : p.bits.length = 8) : savePg a p = ((a.write 2 (strB (encPg p))).flush, 0) := by
  have hsz : (strB (encPg p)).size = 64 := by rw [strB_size, encPg_len hb]
  have hp := h.put (i := 2) (by omega) hsz
  unfold savePg
  rw [if_neg (by omega), if_neg (by omega), (h.write 2 _).flush1]
theorem savePg_load {a : AD} {n : Nat} (h : a.On n) (hn : 3 ≤ n) {p : PgV} (hb : p.bits.length = 8) (he : p.ev < 2 ^ 64) : loadPg (savePg a p).1 = (p, 0) := by
  have hsz : (strB (encPg p)).size = 64 := by rw [strB_size, encPg_len hb]
  have hp := h.put (i := 2) (by omega) hsz
  have how := h.write 2 (strB (encPg p))
  rw [savePg_on h hn hb]
  show loadPg (a.write 2 (strB (encPg p))).flush = _
  have hfs := AD.flush_safe how.flush1 (j := 2) (by rw [how.len]; omega)
  have hsp : (a.write 2 (strB (encPg p))).spoilt 2 = false := by rw [AD.write_of hp]; rfl
  have hr : (a.write 2 (strB (encPg p))).flush.read 2 = (strB (encPg p), 0) := by
    rw [read_on how.flush (i := 2) (by omega)]
    show (if (a.write 2 (strB (encPg p))).flush.spoilt 2 = true then _ else _) = _
    rw [hfs.2.2, hsp, if_neg (by decide)]
    show ((a.write 2 (strB (encPg p))).flush.top 2, (0 : Int)) = _
    rw [AD.top_none hfs.2.1, hfs.1, AD.write_top hp]
    rfl
  unfold loadPg
  rw [hr, if_neg (fun h => h rfl)]
  show decPg (encPg p) = _
  exact decPg_enc hb he
theorem savePg_isOn {a : AD} {n : Nat} (h : a.On n) (hn : 3 ≤ n) {p : PgV} (hb : p.bits.length = 8) : (savePg a p).1.On n := by
  rw [savePg_on h hn hb]; exact (h.write 2 _).flush
theorem few_savePg {a : AD} {N : Nat} (h : a.Few N) (p : PgV) : (savePg a p).1.Few (N + 1) := by
  unfold savePg
  split
  · exact h.mono (by omega)
  · split
    · exact h.mono (by omega)
    · exact (h.write _ _).flush
theorem pshown_spec (w : World) : Ret Tryz.prog 4 #[] w (.bool true) := by
  refine ret_of (revetmentlaw11_shown_calls ?_)
  unfold revetmentlaw11_shown
  have e1 : (ByteArray.mk #[97]) = strB [97] := rfl
  rw [e1]
  have h4 := AD.On.new 4
  have hb := bitsF_len [97]
  refine new_u (n := 4) (T.nil w) (by omega) fun p w1 h1 => ⟨_, rfl, no rfl ?_⟩
  refine (bits_spec [97] (by simp) w1).mono fun e w2 ⟨he, hx2⟩ => ⟨_, he, ?_⟩
  have h2 := h1.quiet hx2
  refine (psave_d h2 (few_new _ _) (p := ⟨5, bitsF [97]⟩) (show 5 < 2 ^ 64 by decide) (by rw [hb]; decide)).mono fun e w3 ⟨he, h3⟩ => ⟨_, he, ?_⟩
  rw [savePg_on h4 (by omega) hb]
  have hl := savePg_load h4 (by omega) (p := ⟨5, bitsF [97]⟩) hb (show 5 < 2 ^ 64 by decide)
  have hF := few_savePg (few_new 4 0) ⟨5, bitsF [97]⟩
  refine no rfl ?_
  refine (pload_spec h3 (hF.mono (by decide)) (Nat.le_trans (h3.read_size 2) (by decide))).mono fun e w4 ⟨he, hx4⟩ => ⟨_, _, _, he, ?_⟩
  rw [hl]
  refine Alloc.t (T.nil w4) fun k2 w5 h5 => St.t (c := pgC pgZ) (c' := #[.int .u64 ((5 : Nat) : Int), .string (ByteArray.mk #[])]) h5 .head (show 0 < 2 by decide) rfl rfl fun w6 h6 => St.t (c' := pgC ⟨5, bitsF [97]⟩) h6 .head (show 1 < 2 by decide) rfl rfl fun w7 h7 => ?_
  refine ⟨fun w' => T [] w4 w' [blk k2 (pgC ⟨5, bitsF [97]⟩) 36], h7.drew, yes rfl ⟨_, fun w' h' => h'.ld (b := k2) (c := pgC ⟨5, bitsF [97]⟩) (by repeat (first | exact List.Mem.head _ | refine List.Mem.tail _ ?_)) rfl, yes rfl ⟨_, fun w' h' => h'.ld (b := k2) (c := pgC ⟨5, bitsF [97]⟩) (i := 1) (by repeat (first | exact List.Mem.head _ | refine List.Mem.tail _ ?_)) rfl, ?_⟩⟩⟩
  refine (bits_spec [97] (by simp) _).mono fun e w8 ⟨he, hx8⟩ => ⟨_, he, h7.drew.quiet hx8, ?_, ?_⟩
  · rw [strB_toList]; simp
  · exact ((h3.ext.trans hx4).trans h7.drew.chg.ext).trans hx8
theorem pshown_end {w w1 : World} (hx : Ext w w1) : Calls Tryz.prog 4 #[] w1 fun e w2 => ∃ b : Bool, e = .returned (.bool b) ∧ RetR w (.bool true) (.bool b) w2 :=
  (pshown_spec w1).mono fun e w2 ⟨he, hx2⟩ => ⟨true, he, rfl, hx.trans hx2⟩
end Go.Proofs.YtmipjkalfodcpaaGreatDoor
end
section
/-! super: superblocks as values; when two are the same. -/
namespace Go.Proofs.YtmipjkalfodcpaaGreatDoor
open Go.Sh Go.RowKit
set_option linter.unusedVariables false
set_option maxRecDepth 20000
set_option maxHeartbeats 1000000
structure SupV where
  uuid : Int
  events : Int
  role : Int
  cols : Int
  chunk : Int
  rows : Int
  clean : Bool
  built : Int
  new : Int
  grown : Int
deriving DecidableEq
def supC (a : SupV) : Array Value := #[.int .u64 a.uuid, .int .u64 a.events, .int .i64 a.role, .int .i64 a.cols, .int .i64 a.chunk, .int .i64 a.rows, .bool a.clean, .int .i64 a.built, .int .i64 a.new, .int .i64 a.grown]
abbrev sup0 : SupV := ⟨0, 0, 0, 0, 0, 0, false, 0, 0, 0⟩
theorem pt0 (a : SupV) (w : World) : (part 23 (supC a) 0).run Tryz.prog w = .ok (.int .u64 a.uuid) w := by kernel_rfl
theorem pt1 (a : SupV) (w : World) : (part 23 (supC a) 1).run Tryz.prog w = .ok (.int .u64 a.events) w := by kernel_rfl
theorem pt2 (a : SupV) (w : World) : (part 3 (supC a) 2).run Tryz.prog w = .ok (.int .i64 a.role) w := by kernel_rfl
theorem pt6 (a : SupV) (w : World) : (part 4 (supC a) 6).run Tryz.prog w = .ok (.bool a.clean) w := by kernel_rfl
theorem pt7 (a : SupV) (w : World) : (part 3 (supC a) 7).run Tryz.prog w = .ok (.int .i64 a.built) w := by kernel_rfl
theorem pt8 (a : SupV) (w : World) : (part 3 (supC a) 8).run Tryz.prog w = .ok (.int .i64 a.new) w := by kernel_rfl
theorem pt9 (a : SupV) (w : World) : (part 3 (supC a) 9).run Tryz.prog w = .ok (.int .i64 a.grown) w := by kernel_rfl
theorem pg0 (a b c : Int) (w : World) : (part 3 #[.int .i64 a, .int .i64 b, .int .i64 c] 0).run Tryz.prog w = .ok (.int .i64 a) w := by kernel_rfl
theorem pg1 (a b c : Int) (w : World) : (part 3 #[.int .i64 a, .int .i64 b, .int .i64 c] 1).run Tryz.prog w = .ok (.int .i64 b) w := by kernel_rfl
theorem pg2 (a b c : Int) (w : World) : (part 3 #[.int .i64 a, .int .i64 b, .int .i64 c] 2).run Tryz.prog w = .ok (.int .i64 c) w := by kernel_rfl
theorem eq_u64 (d : Nat) (w : World) (a b : Int) : (Op.equalIn (d + 1) 23 (.int .u64 a) (.int .u64 b)).run Tryz.prog w = .ok (a == b) w := run_equalIn_int w d 23 .u64 .u64 a b (by kernel_rfl)
theorem eq_int (d : Nat) (w : World) (a b : Int) : (Op.equalIn (d + 1) 3 (.int .i64 a) (.int .i64 b)).run Tryz.prog w = .ok (a == b) w := run_equalIn_int w d 3 .i64 .i64 a b (by kernel_rfl)
theorem eq_bool (d : Nat) (w : World) (a b : Bool) : (Op.equalIn (d + 1) 4 (.bool a) (.bool b)).run Tryz.prog w = .ok (a == b) w := run_equalIn_bool' w d 4 a b (by kernel_rfl)
theorem eqStep {P : Program} {w : World} {d : Nat} {xs ys : Array Value} {fs : List Field} {a b : Value} {r : Bool} (nm : String) (ty : TypeId) (o : Nat) (e : Bool) (s1 s2 : String) (by_ : Nat) (hf : nm ≠ "_") (ha : (part ty xs o).run P w = .ok a w) (hb : (part ty ys o).run P w = .ok b w) (he : (Op.equalIn d ty a b).run P w = .ok r w)
    {q : Bool} (hr : (Op.eqFields d xs ys fs).run P w = .ok q w) : (Op.eqFields d xs ys (Field.mk nm ty o e s1 s2 by_ :: fs)).run P w = .ok (r && q) w := by
  simp only [Op.eqFields, if_pos hf, Sem.run_bind, ha, hb, he, Result.andThen_ok]
  cases r
  · simp
  · simp [hr]
theorem eqNil {P : Program} {w : World} {d : Nat} {xs ys : Array Value} : (Op.eqFields d xs ys []).run P w = .ok true w := by simp [Op.eqFields]
end Go.Proofs.YtmipjkalfodcpaaGreatDoor
end
section
/-! layout.Check (out of the layout's text). -/
namespace Go.Proofs.YtmipjkalfodcpaaGreatDoor
open Go.Sh
set_option linter.unusedVariables false
/-- a geometry that may be -/
def OkG (c k r : Int) : Prop := 4 ≤ c ∧ c ≤ 10 ∧ 1 ≤ k ∧ k ≤ 4 ∧ 1 ≤ r ∧ r ≤ 256
instance (c k r : Int) : Decidable (OkG c k r) := by unfold OkG; infer_instance
def CheckI (c k r : Int) (w : World) (vs : List Value) (w' : World) : Prop := ∃ i : Nat, vs = [.int .i64 i] ∧ i ≤ 3 ∧ Ext w w' ∧ (1 ≤ i → 4 ≤ c ∧ c ≤ 10) ∧ (2 ≤ i → 1 ≤ k ∧ k ≤ 4) ∧ (3 ≤ i → 1 ≤ r ∧ r ≤ 256)
def CheckM (vs : List Value) (_ : World) : Nat := match vs with | [.int _ i] => 3 - i.toNat | _ => 0
theorem checkI_next {c k r : Int} {w w' : World} (i : Nat) (hx : Ext w w') (hi : i < 3) (h1 : 4 ≤ c ∧ c ≤ 10) (h2 : 1 ≤ i → 1 ≤ k ∧ k ≤ 4) (h3 : 2 ≤ i → 1 ≤ r ∧ r ≤ 256) :
    CheckI c k r w [.int .i64 (IntKind.i64.wrap ((i : Int) + 1))] w' :=
  ⟨i + 1, by rw [wrap64 _ (by omega) (by omega)]; rfl, by omega, hx, fun _ => h1, fun h => h2 (by omega), fun h => h3 (by omega)⟩
theorem checkM_next (i : Nat) (w w' : World) (hi : i < 3) : CheckM [.int .i64 (IntKind.i64.wrap ((i : Int) + 1))] w' < CheckM [.int .i64 i] w := by
  rw [wrap64 _ (by omega) (by omega)]; simp only [CheckM]; omega
end Go.Proofs.YtmipjkalfodcpaaGreatDoor
end
section
/-! super: May, parts, widths. -/
namespace Go.Proofs.YtmipjkalfodcpaaGreatDoor
open Go.Sh Go.RowKit
set_option linter.unusedVariables false
set_option maxRecDepth 20000
set_option maxHeartbeats 1000000
/-- a superblock that may be, of a column of an array that does not grow -/
structure MayS (a : SupV) : Prop where
  uuid : 1 ≤ a.uuid ∧ a.uuid < 18446744073709551616
  events : 0 ≤ a.events ∧ a.events < 18446744073709551616
  role : 0 ≤ a.role ∧ a.role < a.cols
  cols : 4 ≤ a.cols ∧ a.cols ≤ 10
  chunk : 1 ≤ a.chunk ∧ a.chunk ≤ 4
  rows : 1 ≤ a.rows ∧ a.rows ≤ 256
  built : 0 ≤ a.built ∧ a.built ≤ a.rows
  new : a.new = 0
  grown : a.grown = 0
theorem rd10 {F : List Nat} {w0 w : World} {Γ : List A} {k : Nat} {t : TypeId} {a : SupV} (h : T F w0 w Γ) (hm : blk k (supC a) t ∈ Γ) {Q : Int → Int → Int → Int → Int → Int → Bool → Int → Int → Int → Prop} (hQ : Q a.uuid a.events a.role a.cols a.chunk a.rows a.clean a.built a.new a.grown) :
    ∃ n0 : Int, ∃ n1 : Int, ∃ n2 : Int, ∃ n3 : Int, ∃ n4 : Int, ∃ n5 : Int, ∃ b6 : Bool, ∃ n7 : Int, ∃ n8 : Int, ∃ n9 : Int, (w.cell? ⟨k, 0, none⟩ = some (.int .u64 n0) ∧ w.cell? ⟨k, 1, none⟩ = some (.int .u64 n1) ∧ w.cell? ⟨k, 2, none⟩ = some (.int .i64 n2) ∧ w.cell? ⟨k, 3, none⟩ = some (.int .i64 n3) ∧ w.cell? ⟨k, 4, none⟩ = some (.int .i64 n4) ∧ w.cell? ⟨k, 5, none⟩ = some (.int .i64 n5) ∧ w.cell? ⟨k, 6, none⟩ = some (.bool b6) ∧ w.cell? ⟨k, 7, none⟩ = some (.int .i64 n7) ∧ w.cell? ⟨k, 8, none⟩ = some (.int .i64 n8) ∧ w.cell? ⟨k, 9, none⟩ = some (.int .i64 n9)) ∧ Q n0 n1 n2 n3 n4 n5 b6 n7 n8 n9 :=
  ⟨_, _, _, _, _, _, _, _, _, _, ⟨h.ld hm rfl, h.ld hm rfl, h.ld hm rfl, h.ld hm rfl, h.ld hm rfl, h.ld hm rfl, h.ld hm rfl, h.ld hm rfl, h.ld hm rfl, h.ld hm rfl⟩, hQ⟩
/-- ten stores, one behind the other -/
theorem st10 {F : List Nat} {w0 w : World} {Γ : List A} {k : Nat} {t : TypeId} {a b : SupV} (hT : T F w0 w (blk k (supC a) t :: Γ)) {K : World → Prop} (hK : ∀ w', T F w0 w' (blk k (supC b) t :: Γ) → K w') :
    St ⟨k, 0, none⟩ (.int .u64 b.uuid) w fun w1 => St ⟨k, 1, none⟩ (.int .u64 b.events) w1 fun w2 => St ⟨k, 2, none⟩ (.int .i64 b.role) w2 fun w3 => St ⟨k, 3, none⟩ (.int .i64 b.cols) w3 fun w4 => St ⟨k, 4, none⟩ (.int .i64 b.chunk) w4 fun w5 => St ⟨k, 5, none⟩ (.int .i64 b.rows) w5 fun w6 =>
      St ⟨k, 6, none⟩ (.bool b.clean) w6 fun w7 => St ⟨k, 7, none⟩ (.int .i64 b.built) w7 fun w8 => St ⟨k, 8, none⟩ (.int .i64 b.new) w8 fun w9 => St ⟨k, 9, none⟩ (.int .i64 b.grown) w9 K := by
  have h0 : T F w0 w (blk k #[.int .u64 a.uuid, .int .u64 a.events, .int .i64 a.role, .int .i64 a.cols, .int .i64 a.chunk, .int .i64 a.rows, .bool a.clean, .int .i64 a.built, .int .i64 a.new, .int .i64 a.grown] t :: Γ) := hT
  refine St.t (c' := #[.int .u64 b.uuid, .int .u64 a.events, .int .i64 a.role, .int .i64 a.cols, .int .i64 a.chunk, .int .i64 a.rows, .bool a.clean, .int .i64 a.built, .int .i64 a.new, .int .i64 a.grown]) h0 .head (show 0 < 10 by decide) rfl rfl fun w1 h1 => ?_
  refine St.t (c' := #[.int .u64 b.uuid, .int .u64 b.events, .int .i64 a.role, .int .i64 a.cols, .int .i64 a.chunk, .int .i64 a.rows, .bool a.clean, .int .i64 a.built, .int .i64 a.new, .int .i64 a.grown]) h1 .head (show 1 < 10 by decide) rfl rfl fun w2 h2 => ?_
  refine St.t (c' := #[.int .u64 b.uuid, .int .u64 b.events, .int .i64 b.role, .int .i64 a.cols, .int .i64 a.chunk, .int .i64 a.rows, .bool a.clean, .int .i64 a.built, .int .i64 a.new, .int .i64 a.grown]) h2 .head (show 2 < 10 by decide) rfl rfl fun w3 h3 => ?_
  refine St.t (c' := #[.int .u64 b.uuid, .int .u64 b.events, .int .i64 b.role, .int .i64 b.cols, .int .i64 a.chunk, .int .i64 a.rows, .bool a.clean, .int .i64 a.built, .int .i64 a.new, .int .i64 a.grown]) h3 .head (show 3 < 10 by decide) rfl rfl fun w4 h4 => ?_
  refine St.t (c' := #[.int .u64 b.uuid, .int .u64 b.events, .int .i64 b.role, .int .i64 b.cols, .int .i64 b.chunk, .int .i64 a.rows, .bool a.clean, .int .i64 a.built, .int .i64 a.new, .int .i64 a.grown]) h4 .head (show 4 < 10 by decide) rfl rfl fun w5 h5 => ?_
  refine St.t (c' := #[.int .u64 b.uuid, .int .u64 b.events, .int .i64 b.role, .int .i64 b.cols, .int .i64 b.chunk, .int .i64 b.rows, .bool a.clean, .int .i64 a.built, .int .i64 a.new, .int .i64 a.grown]) h5 .head (show 5 < 10 by decide) rfl rfl fun w6 h6 => ?_
  refine St.t (c' := #[.int .u64 b.uuid, .int .u64 b.events, .int .i64 b.role, .int .i64 b.cols, .int .i64 b.chunk, .int .i64 b.rows, .bool b.clean, .int .i64 a.built, .int .i64 a.new, .int .i64 a.grown]) h6 .head (show 6 < 10 by decide) rfl rfl fun w7 h7 => ?_
  refine St.t (c' := #[.int .u64 b.uuid, .int .u64 b.events, .int .i64 b.role, .int .i64 b.cols, .int .i64 b.chunk, .int .i64 b.rows, .bool b.clean, .int .i64 b.built, .int .i64 a.new, .int .i64 a.grown]) h7 .head (show 7 < 10 by decide) rfl rfl fun w8 h8 => ?_
  refine St.t (c' := #[.int .u64 b.uuid, .int .u64 b.events, .int .i64 b.role, .int .i64 b.cols, .int .i64 b.chunk, .int .i64 b.rows, .bool b.clean, .int .i64 b.built, .int .i64 b.new, .int .i64 a.grown]) h8 .head (show 8 < 10 by decide) rfl rfl fun w9 h9 => ?_
  refine St.t (c' := #[.int .u64 b.uuid, .int .u64 b.events, .int .i64 b.role, .int .i64 b.cols, .int .i64 b.chunk, .int .i64 b.rows, .bool b.clean, .int .i64 b.built, .int .i64 b.new, .int .i64 b.grown]) h9 .head (show 9 < 10 by decide) rfl rfl fun w10 h10 => ?_
  exact hK w10 h10
def partC (k kc : Nat) (pc : Option Addr) : Array Value := #[.pointer (some ⟨k, 2, none⟩), .int .i64 1, .pointer (some ⟨k, 3, none⟩), .int .i64 1, .pointer (some ⟨k, 4, none⟩), .int .i64 1, .pointer (some ⟨k, 5, none⟩), .int .i64 2, .pointer pc, .int .i64 1, .pointer (some ⟨k, 7, none⟩), .int .i64 2, .pointer (some ⟨k, 8, none⟩), .int .i64 1, .pointer (some ⟨k, 9, none⟩), .int .i64 2]
def supW : List Nat := [4, 8, 8, 1, 1, 1, 2, 1, 2, 1, 2]
theorem supW_wid : Wid supW := ⟨by decide, by decide⟩
end Go.Proofs.YtmipjkalfodcpaaGreatDoor
end
section
/-! super: May, of any superblock. -/
namespace Go.Proofs.YtmipjkalfodcpaaGreatDoor
open Go.Sh Go.RowKit
set_option linter.unusedVariables false
set_option maxRecDepth 20000
set_option maxHeartbeats 1000000
def MayF (a : SupV) : Prop := a.uuid ≠ 0 ∧ OkG a.cols a.chunk a.rows ∧ ((a.new = 0 ∧ a.grown = 0) ∨ (a.new ≠ 0 ∧ a.cols + 1 ≤ a.new ∧ a.new ≤ 10)) ∧ (a.role = 254 ∨ a.role = 255 ∨ (0 ≤ a.role ∧ a.role ≤ (if a.new > a.cols then a.new else a.cols) - 1)) ∧ (0 ≤ a.built ∧ a.built ≤ a.rows) ∧ (0 ≤ a.grown ∧ a.grown ≤ a.rows)
instance (a : SupV) : Decidable (MayF a) := by unfold MayF; infer_instance
end Go.Proofs.YtmipjkalfodcpaaGreatDoor
end
