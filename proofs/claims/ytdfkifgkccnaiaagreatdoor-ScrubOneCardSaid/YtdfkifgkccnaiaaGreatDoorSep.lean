import Derived.Test.YtdfkifgkccnaiaaGreatDoorSl
/-! Memory in parts: what a call owns, part by part; all else stays. -/
namespace Go.Sh
open Go.RowKit
/-- a part of memory: the blocks it lies in, and what holds of them -/
structure A where
  foot : List Nat
  holds : (Nat → Option Obj) → Prop
  loc : ∀ {h h' : Nat → Option Obj}, (∀ b, b ∈ foot → h' b = h b) → holds h → holds h'
def hp (w : World) : Nat → Option Obj := fun b => w.heap[b]?
/-- one block -/
def ob (b : Nat) (o : Obj) : A := ⟨[b], fun h => h b = some o, fun he h => (he b List.mem_cons_self).trans h⟩
abbrev blk (b : Nat) (c : Array Value) (t : TypeId) : A := ob b (.cells c t (0, 0))
/-- two parts as one -/
def A.and (x y : A) : A := ⟨x.foot ++ y.foot, fun h => x.holds h ∧ y.holds h, fun he h => ⟨x.loc (fun b hb => he b (List.mem_append_left _ hb)) h.1, y.loc (fun b hb => he b (List.mem_append_right _ hb)) h.2⟩⟩
/-- a fact, as a part -/
def A.pure (p : Prop) : A := ⟨[], fun _ => p, fun _ h => h⟩
def A.emp : A := .pure True
def A.all : List A → A
  | [] => .emp
  | x :: l => x.and (A.all l)
/-- outside F all is as it was -/
structure Chg (F : List Nat) (w w' : World) : Prop where
  os : w'.os = w.os
  output : w'.output = w.output
  size : w.heap.size ≤ w'.heap.size
  heap : ∀ b, b < w.heap.size → b ∉ F → w'.heap[b]? = w.heap[b]?
theorem Chg.refl (F : List Nat) (w : World) : Chg F w w := ⟨rfl, rfl, Nat.le_refl _, fun _ _ _ => rfl⟩
theorem Chg.trans {F : List Nat} {a b c : World} (h : Chg F a b) (h' : Chg F b c) : Chg F a c :=
  ⟨h'.os.trans h.os, h'.output.trans h.output, Nat.le_trans h.size h'.size, fun i hi hn => (h'.heap i (Nat.lt_of_lt_of_le hi h.size) hn).trans (h.heap i hi hn)⟩
theorem Chg.ext {w w' : World} (h : Chg [] w w') : Ext w w' := ⟨h.os, h.output, h.size, fun b hb => h.heap b hb (by simp)⟩
theorem Ext.chg {w w' : World} (h : Ext w w') (F : List Nat) : Chg F w w' := ⟨h.os, h.output, h.size, fun b hb _ => h.heap b hb⟩
def feet : List A → List Nat
  | [] => []
  | a :: Γ => a.foot ++ feet Γ
theorem feet_append (Γ Δ : List A) : feet (Γ ++ Δ) = feet Γ ++ feet Δ := by
  induction Γ with
  | nil => rfl
  | cons a Γ ih => simp [feet, ih]
theorem feet_mem {Γ : List A} {a : A} (h : a ∈ Γ) {b : Nat} (hb : b ∈ a.foot) : b ∈ feet Γ := by
  induction h with
  | head => exact List.mem_append_left _ hb
  | tail _ _ ih => exact List.mem_append_right _ ih
/-- a call's memory: over the base w0, of which only F may have turned, the parts Γ, apart from one another -/
structure T (F : List Nat) (w0 w : World) (Γ : List A) : Prop where
  chg : Chg F w0 w
  nodup : (feet Γ).Nodup
  own : ∀ b, b ∈ feet Γ → b < w.heap.size ∧ (b ∈ F ∨ w0.heap.size ≤ b)
  holds : ∀ a, a ∈ Γ → a.holds (hp w)
theorem T.nil (w : World) : T [] w w [] := ⟨.refl _ w, by simp [feet], fun b hb => (by cases hb), fun a ha => (by cases ha)⟩
/-- the parts that a call is handed -/
structure Has (w : World) (Γ : List A) : Prop where
  nodup : (feet Γ).Nodup
  lt : ∀ b, b ∈ feet Γ → b < w.heap.size
  holds : ∀ a, a ∈ Γ → a.holds (hp w)
theorem Has.start {w : World} {Γ : List A} (h : Has w Γ) : T (feet Γ) w w Γ := ⟨.refl _ w, h.nodup, fun b hb => ⟨h.lt b hb, .inl hb⟩, h.holds⟩
theorem T.has {F : List Nat} {w0 w : World} {Γ : List A} (h : T F w0 w Γ) : Has w Γ := ⟨h.nodup, fun b hb => (h.own b hb).1, h.holds⟩
theorem T.drew {F : List Nat} {w0 w : World} {Γ : List A} (h : T F w0 w Γ) : T F w0 w.drew Γ := ⟨⟨h.chg.os, h.chg.output, h.chg.size, h.chg.heap⟩, h.nodup, h.own, h.holds⟩
theorem A.keep {a : A} {w w' : World} (h : a.holds (hp w)) (he : ∀ b, b ∈ a.foot → w'.heap[b]? = w.heap[b]?) : a.holds (hp w') := a.loc he h
theorem T.alloc {F : List Nat} {w0 w : World} {Γ : List A} (h : T F w0 w Γ) (o : Obj) : T F w0 (w.alloc o) (ob w.heap.size o :: Γ) := by
  have hsz : (w.alloc o).heap.size = w.heap.size + 1 := by show (w.heap.push o).size = _; rw [Array.size_push]
  have hold : ∀ b, b < w.heap.size → (w.alloc o).heap[b]? = w.heap[b]? := fun b hb => by
    show (w.heap.push o)[b]? = _
    rw [Array.getElem?_push, if_neg (by omega)]
  refine ⟨⟨h.chg.os, h.chg.output, by have := h.chg.size; omega, fun b hb hn => (hold b (Nat.lt_of_lt_of_le hb h.chg.size)).trans (h.chg.heap b hb hn)⟩, ?_, ?_, ?_⟩
  · refine List.nodup_cons.2 ⟨fun hm => ?_, h.nodup⟩
    have := (h.own _ hm).1
    omega
  · intro b hb
    rcases List.mem_cons.1 hb with rfl | hb
    · exact ⟨by omega, .inr h.chg.size⟩
    · exact ⟨by have := (h.own _ hb).1; omega, (h.own _ hb).2⟩
  · intro a ha
    rcases List.mem_cons.1 ha with rfl | ha
    · show (w.heap.push o)[w.heap.size]? = _
      simp
    · exact A.keep (h.holds a ha) fun b hb => hold b (h.own b (feet_mem ha hb)).1
theorem T.drop {F : List Nat} {w0 w : World} {Γ : List A} {a : A} (h : T F w0 w (a :: Γ)) : T F w0 w Γ :=
  ⟨h.chg, (List.nodup_append.1 h.nodup).2.1, fun b hb => h.own b (List.mem_append_right _ hb), fun x hx => h.holds x (List.mem_cons_of_mem _ hx)⟩
theorem T.swap {F : List Nat} {w0 w : World} {Γ Γ' : List A} (h : T F w0 w Γ) (hp : Γ.Perm Γ') : T F w0 w Γ' := by
  have hf : (feet Γ).Perm (feet Γ') := by
    clear h
    induction hp with
    | nil => exact .refl _
    | cons a _ ih => exact .append_left _ ih
    | swap a b l =>
      show (b.foot ++ (a.foot ++ feet l)).Perm (a.foot ++ (b.foot ++ feet l))
      rw [← List.append_assoc, ← List.append_assoc]
      exact List.perm_append_comm.append_right _
    | trans _ _ h1 h2 => exact h1.trans h2
  exact ⟨h.chg, hf.nodup_iff.1 h.nodup, fun b hb => h.own b (hf.mem_iff.2 hb), fun a ha => h.holds a (hp.mem_iff.2 ha)⟩
/-- a part is picked out -/
inductive Pick (a : A) : List A → List A → Prop
  | head {Γ : List A} : Pick a (a :: Γ) Γ
  | tail {x : A} {Γ Δ : List A} (h : Pick a Γ Δ) : Pick a (x :: Γ) (x :: Δ)
theorem Pick.perm {a : A} {Γ Δ : List A} (h : Pick a Γ Δ) : Γ.Perm (a :: Δ) := by
  induction h with
  | head => exact .refl _
  | tail _ ih => exact (List.Perm.cons _ ih).trans (.swap _ _ _)
theorem T.pick {F : List Nat} {w0 w : World} {Γ Δ : List A} {a : A} (h : T F w0 w Γ) (hk : Pick a Γ Δ) : T F w0 w (a :: Δ) := h.swap hk.perm
/-- a call that is handed the parts Γ and leaves Γ': all else stays -/
theorem T.call {F : List Nat} {w0 w w' : World} {Γ Γ' Δ : List A} (h : T F w0 w (Γ ++ Δ)) (hc : T (feet Γ) w w' Γ') : T F w0 w' (Γ' ++ Δ) := by
  have hd := h.nodup
  rw [feet_append, List.nodup_append] at hd
  have hΔ : ∀ b, b ∈ feet Δ → b < w.heap.size ∧ b ∉ feet Γ := fun b hb => ⟨(h.own b (by rw [feet_append]; exact List.mem_append_right _ hb)).1, fun hm => hd.2.2 b hm b hb rfl⟩
  have hΓ : ∀ b, b ∈ feet Γ → b ∈ F ∨ w0.heap.size ≤ b := fun b hb => (h.own b (by rw [feet_append]; exact List.mem_append_left _ hb)).2
  refine ⟨⟨hc.chg.os.trans h.chg.os, hc.chg.output.trans h.chg.output, Nat.le_trans h.chg.size hc.chg.size, fun b hb hn => ?_⟩, ?_, ?_, ?_⟩
  · refine (hc.chg.heap b (Nat.lt_of_lt_of_le hb h.chg.size) fun hm => ?_).trans (h.chg.heap b hb hn)
    rcases hΓ b hm with h1 | h1
    · exact hn h1
    · omega
  · rw [feet_append, List.nodup_append]
    refine ⟨hc.nodup, hd.2.1, fun x hx y hy he => ?_⟩
    subst he
    rcases (hc.own x hx).2 with h1 | h1
    · exact (hΔ x hy).2 h1
    · have := (hΔ x hy).1; omega
  · intro b hb
    rw [feet_append] at hb
    rcases List.mem_append.1 hb with hb | hb
    · refine ⟨(hc.own b hb).1, ?_⟩
      rcases (hc.own b hb).2 with h1 | h1
      · exact hΓ b h1
      · exact .inr (Nat.le_trans h.chg.size h1)
    · exact ⟨Nat.lt_of_lt_of_le (hΔ b hb).1 hc.chg.size, (h.own b (by rw [feet_append]; exact List.mem_append_right _ hb)).2⟩
  · intro a ha
    rcases List.mem_append.1 ha with ha | ha
    · exact hc.holds a ha
    · exact A.keep (h.holds a (List.mem_append_right _ ha)) fun b hb => by
        have hb' := feet_mem ha hb
        exact hc.chg.heap b (hΔ b hb').1 (hΔ b hb').2
theorem T.call1 {F : List Nat} {w0 w w' : World} {Γ Γ' Δ : List A} {a : A} (h : T F w0 w Γ) (hk : Pick a Γ Δ) (hc : T a.foot w w' Γ') : T F w0 w' (Γ' ++ Δ) := by
  have h1 : T F w0 w ([a] ++ Δ) := h.pick hk
  exact T.call h1 (by simpa [feet] using hc)
theorem T.quiet {F : List Nat} {w0 w w' : World} {Γ : List A} (h : T F w0 w Γ) (he : Ext w w') : T F w0 w' Γ := by
  have h1 : T F w0 w ([] ++ Γ) := h
  exact T.call (Γ' := []) h1 ⟨he.chg _, by simp [feet], fun b hb => (by cases hb), fun a ha => (by cases ha)⟩
theorem T.got {F : List Nat} {w0 w : World} {Γ : List A} (h : T F w0 w Γ) {b : Nat} {o : Obj} (hm : ob b o ∈ Γ) : w.heap[b]? = some o := h.holds _ hm
theorem T.ld {F : List Nat} {w0 w : World} {Γ : List A} (h : T F w0 w Γ) {b i : Nat} {c : Array Value} {t : TypeId} {f : Nat × Nat} {v : Value} (hm : ob b (.cells c t f) ∈ Γ) (hv : c[i]? = some v) : w.cell? ⟨b, i, none⟩ = some v :=
  cell_of (h.got hm) hv
/-- what lies outside the parts, in the base -/
theorem T.base {F : List Nat} {w0 w : World} {Γ : List A} (h : T F w0 w Γ) {b : Nat} {o : Obj} (hb : w0.heap[b]? = some o) (hn : b ∉ F) : w.heap[b]? = some o := (h.chg.heap b (lt_of_heap hb) hn).trans hb
/-- a part that turns into another one, in the same blocks -/
inductive Turn (x y : A) : List A → List A → Prop
  | head {Γ : List A} : Turn x y (x :: Γ) (y :: Γ)
  | tail {z : A} {Γ Δ : List A} (h : Turn x y Γ Δ) : Turn x y (z :: Γ) (z :: Δ)
theorem Turn.perm {x y : A} {Γ Γ' : List A} (h : Turn x y Γ Γ') : ∃ Δ, Γ.Perm (x :: Δ) ∧ (y :: Δ).Perm Γ' := by
  induction h with
  | head => exact ⟨_, .refl _, .refl _⟩
  | tail _ ih =>
    obtain ⟨Δ, h1, h2⟩ := ih
    exact ⟨_ :: Δ, (List.Perm.cons _ h1).trans (.swap _ _ _), (List.Perm.swap _ _ _).trans (.cons _ h2)⟩
/-- the world turns at one block alone -/
theorem T.change {F : List Nat} {w0 w w' : World} {Γ Γ' : List A} {b : Nat} {o o' : Obj} (h : T F w0 w Γ) (hu : Turn (ob b o) (ob b o') Γ Γ') (hos : w'.os = w.os) (hout : w'.output = w.output) (hsz : w'.heap.size = w.heap.size)
    (hb : w'.heap[b]? = some o') (ho : ∀ c, c ≠ b → w'.heap[c]? = w.heap[c]?) : T F w0 w' Γ' := by
  obtain ⟨Δ, h1, h2⟩ := hu.perm
  have h3 : T F w0 w ([ob b o] ++ Δ) := h.swap h1
  refine (T.call (Γ' := [ob b o']) h3 ⟨⟨hos, hout, by omega, fun c _ hn => ho c fun e => hn (by simp [feet, ob, e])⟩, by simp [feet, ob], fun c hc => ?_, fun a ha => ?_⟩).swap h2
  · obtain rfl : c = b := by simpa [feet, ob] using hc
    exact ⟨(Array.getElem?_eq_some_iff.1 hb).1, .inl (by simp [feet, ob])⟩
  · obtain rfl : a = ob b o' := by simpa using ha
    exact hb
theorem Alloc.t {F : List Nat} {w0 w : World} {Γ : List A} {c : Array Value} {t : TypeId} {K : Nat → World → Prop} (hT : T F w0 w Γ) (h : ∀ b w', T F w0 w' (blk b c t :: Γ) → K b w') : Alloc c t w K := h _ _ (hT.alloc _)
theorem AllocM.t {F : List Nat} {w0 w : World} {Γ : List A} {K : Nat → World → Prop} (hT : T F w0 w Γ) (h : ∀ b w', T F w0 w' (ob b (.map #[] 0) :: Γ) → K b w') : AllocM w K := h _ _ (hT.alloc _)
theorem St.t {F : List Nat} {w0 w : World} {Γ Γ' : List A} {b i : Nat} {c c' : Array Value} {t : TypeId} {v : Value} {K : World → Prop} (hT : T F w0 w Γ) (hu : Turn (blk b c t) (blk b c' t) Γ Γ') (hi : i < c.size) (hc : c.setIfInBounds i v = c')
    (hv : scalar v = true) (h : ∀ w', T F w0 w' Γ' → K w') : St ⟨b, i, none⟩ v w K := by
  obtain ⟨Δ, h1, _⟩ := hu.perm
  have hb : w.heap[b]? = some (.cells c t (0, 0)) := hT.got (h1.mem_iff.2 List.mem_cons_self)
  refine ⟨⟨c[i], by simp [World.cell?, hb, hi]⟩, by simp [World.frozen?, hb], hv, h _ (hT.change hu rfl rfl ?_ (by rw [setBlock_same hb, hc]) fun d hd => setBlock_other hd)⟩
  show (w.heap.modify b _).size = _
  rw [Array.size_modify]
theorem lex_t {F : List Nat} {w0 w : World} {Γ : List A} {B : (World → Prop) → Prop} (hT : T F w0 w Γ) (h : T F w0 w.drew Γ → B (fun w' => T F w0 w' Γ)) : ∃ D : World → Prop, D w.drew ∧ B D := ⟨fun w' => T F w0 w' Γ, hT.drew, h hT.drew⟩
theorem Ret.useT {P : Program} {f : FuncId} {args : Array Value} {F : List Nat} {w0 w : World} {Γ : List A} {v : Value} {Φ : Ending → World → Prop} (hT : T F w0 w Γ) (h : Ret P f args w v) (hk : ∀ w', T F w0 w' Γ → Φ (.returned v) w') : Calls P f args w Φ :=
  h.mono fun _ w' ⟨he, hx⟩ => he ▸ hk w' (hT.quiet hx)
theorem T.open2 {F : List Nat} {w0 w : World} {Γ : List A} {x y : A} (h : T F w0 w (x.and y :: Γ)) : T F w0 w (x :: y :: Γ) :=
  ⟨h.chg, by simpa [feet, A.and] using h.nodup, fun b hb => h.own b (by simpa [feet, A.and] using hb), fun a ha => by
    have h1 := h.holds _ List.mem_cons_self
    rcases List.mem_cons.1 ha with rfl | ha
    · exact h1.1
    · rcases List.mem_cons.1 ha with rfl | ha
      · exact h1.2
      · exact h.holds a (List.mem_cons_of_mem _ ha)⟩
theorem T.shut2 {F : List Nat} {w0 w : World} {Γ : List A} {x y : A} (h : T F w0 w (x :: y :: Γ)) : T F w0 w (x.and y :: Γ) :=
  ⟨h.chg, by simpa [feet, A.and] using h.nodup, fun b hb => h.own b (by simpa [feet, A.and] using hb), fun a ha => by
    rcases List.mem_cons.1 ha with rfl | ha
    · exact ⟨h.holds _ List.mem_cons_self, h.holds _ (List.mem_cons_of_mem _ List.mem_cons_self)⟩
    · exact h.holds a (List.mem_cons_of_mem _ (List.mem_cons_of_mem _ ha))⟩
theorem T.openAll {F : List Nat} {w0 w : World} {l Γ : List A} (h : T F w0 w (A.all l :: Γ)) : T F w0 w (l ++ Γ) := by
  induction l generalizing Γ with
  | nil => exact h.drop
  | cons x l ih =>
    have h1 := T.open2 (x := x) (y := A.all l) h
    have h2 : T F w0 w (A.all l :: x :: Γ) := h1.swap (.swap _ _ _)
    exact (ih h2).swap List.perm_middle
theorem T.shutAll {F : List Nat} {w0 w : World} {l Γ : List A} (h : T F w0 w (l ++ Γ)) : T F w0 w (A.all l :: Γ) := by
  induction l generalizing Γ with
  | nil => exact ⟨h.chg, h.nodup, h.own, fun a ha => by
      rcases List.mem_cons.1 ha with rfl | ha
      · exact trivial
      · exact h.holds a ha⟩
  | cons x l ih =>
    have h2 : T F w0 w (l ++ x :: Γ) := h.swap List.perm_middle.symm
    exact T.shut2 (x := x) (y := A.all l) ((ih h2).swap (.swap _ _ _))
end Go.Sh
