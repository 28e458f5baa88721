import Derived.Test.YtdfkifgkccnaiaaGreatDoorSh
import Derived.RowKit3
/-! Memory of a call's own: what lies in it, and that nothing that was there has turned. -/
namespace Go.Sh
open Go.RowKit
/-- w' is w with new blocks: nothing that was there has turned -/
structure Ext (w w' : World) : Prop where
  os : w'.os = w.os
  output : w'.output = w.output
  size : w.heap.size ≤ w'.heap.size
  heap : ∀ b, b < w.heap.size → w'.heap[b]? = w.heap[b]?
theorem Ext.refl (w : World) : Ext w w := ⟨rfl, rfl, Nat.le_refl _, fun _ _ => rfl⟩
theorem Ext.trans {a b c : World} (h : Ext a b) (h' : Ext b c) : Ext a c :=
  ⟨h'.os.trans h.os, h'.output.trans h.output, Nat.le_trans h.size h'.size, fun i hi => (h'.heap i (Nat.lt_of_lt_of_le hi h.size)).trans (h.heap i hi)⟩
theorem Ext.drew {w w' : World} (h : Ext w w') : Ext w w'.drew := ⟨h.os, h.output, h.size, h.heap⟩
theorem Ext.alloc {w w' : World} (h : Ext w w') (o : Obj) : Ext w (w'.alloc o) := by
  refine ⟨h.os, h.output, ?_, fun b hb => ?_⟩
  · show w.heap.size ≤ (w'.heap.push o).size
    rw [Array.size_push]; exact Nat.le_succ_of_le h.size
  · show (w'.heap.push o)[b]? = _
    rw [Array.getElem?_push, if_neg (by have := h.size; omega)]
    exact h.heap b hb
theorem lt_of_heap {w : World} {b : Nat} {o : Obj} (h : w.heap[b]? = some o) : b < w.heap.size := (Array.getElem?_eq_some_iff.1 h).1
theorem Ext.get {w w' : World} (h : Ext w w') {b : Nat} {o : Obj} (hb : w.heap[b]? = some o) : w'.heap[b]? = some o := (h.heap b (lt_of_heap hb)).trans hb
/-- memory over a base: the base is as it was; the listed blocks are the call's own -/
structure S (w0 w : World) (Γ : List (Nat × Obj)) : Prop where
  ext : Ext w0 w
  nodup : (Γ.map Prod.fst).Nodup
  at' : ∀ p ∈ Γ, w0.heap.size ≤ p.1 ∧ w.heap[p.1]? = some p.2
theorem S.start (w : World) : S w w [] := ⟨.refl w, by simp, fun p h => by cases h⟩
theorem S.alloc {w0 w : World} {Γ : List (Nat × Obj)} (h : S w0 w Γ) (o : Obj) : S w0 (w.alloc o) ((w.heap.size, o) :: Γ) := by
  refine ⟨h.ext.alloc o, ?_, fun p hp => ?_⟩
  · simp only [List.map_cons, List.nodup_cons]
    refine ⟨fun hm => ?_, h.nodup⟩
    obtain ⟨p, hp, he⟩ := List.mem_map.1 hm
    have := lt_of_heap (h.at' p hp).2
    omega
  · rcases List.mem_cons.1 hp with rfl | hp
    · exact ⟨h.ext.size, by show (w.heap.push o)[w.heap.size]? = _; simp⟩
    · obtain ⟨h1, h2⟩ := h.at' p hp
      refine ⟨h1, ?_⟩
      show (w.heap.push o)[p.1]? = _
      rw [Array.getElem?_push, if_neg (by have := lt_of_heap h2; omega)]
      exact h2
theorem S.drew {w0 w : World} {Γ : List (Nat × Obj)} (h : S w0 w Γ) : S w0 w.drew Γ := ⟨h.ext.drew, h.nodup, h.at'⟩
theorem S.call {w0 w w' : World} {Γ : List (Nat × Obj)} (h : S w0 w Γ) (he : Ext w w') : S w0 w' Γ :=
  ⟨h.ext.trans he, h.nodup, fun p hp => ⟨(h.at' p hp).1, he.get (h.at' p hp).2⟩⟩
theorem S.obj {w0 w : World} {Γ : List (Nat × Obj)} (h : S w0 w Γ) {b : Nat} {o : Obj} (hm : (b, o) ∈ Γ) : w.heap[b]? = some o := (h.at' _ hm).2
theorem cell_of {w : World} {b i : Nat} {c : Array Value} {t : TypeId} {f : Nat × Nat} {v : Value} (h : w.heap[b]? = some (.cells c t f)) (hv : c[i]? = some v) : w.cell? ⟨b, i, none⟩ = some v := by
  simp [World.cell?, h, hv]
theorem S.ld {w0 w : World} {Γ : List (Nat × Obj)} (h : S w0 w Γ) {b i : Nat} {c : Array Value} {t : TypeId} {f : Nat × Nat} {v : Value} (hm : (b, .cells c t f) ∈ Γ) (hv : c[i]? = some v) : w.cell? ⟨b, i, none⟩ = some v :=
  cell_of (h.obj hm) hv
theorem S.drop {w0 w : World} {Γ : List (Nat × Obj)} {p : Nat × Obj} (h : S w0 w (p :: Γ)) : S w0 w Γ :=
  ⟨h.ext, by have := h.nodup; simp only [List.map_cons, List.nodup_cons] at this; exact this.2, fun q hq => h.at' q (List.mem_cons_of_mem _ hq)⟩
theorem Alloc.s {w0 w : World} {Γ : List (Nat × Obj)} {c : Array Value} {t : TypeId} {K : Nat → World → Prop} (hS : S w0 w Γ) (h : ∀ b w', S w0 w' ((b, .cells c t (0, 0)) :: Γ) → K b w') : Alloc c t w K :=
  h _ _ (hS.alloc _)
theorem AllocM.s {w0 w : World} {Γ : List (Nat × Obj)} {K : Nat → World → Prop} (hS : S w0 w Γ) (h : ∀ b w', S w0 w' ((b, .map #[] 0) :: Γ) → K b w') : AllocM w K :=
  h _ _ (hS.alloc _)
theorem setBlock_other {w : World} {b b' : Nat} {i : Nat} {v : Value} (h : b' ≠ b) : (w.setCell ⟨b, i, none⟩ v).heap[b']? = w.heap[b']? := by
  show (w.heap.modify b _)[b']? = _
  rw [Array.getElem?_modify, if_neg (Ne.symm h)]
theorem setBlock_same {w : World} {b i : Nat} {c : Array Value} {t : TypeId} {f : Nat × Nat} {v : Value} (h : w.heap[b]? = some (.cells c t f)) :
    (w.setCell ⟨b, i, none⟩ v).heap[b]? = some (.cells (c.setIfInBounds i v) t f) := by
  show (w.heap.modify b _)[b]? = _
  rw [Array.getElem?_modify, if_pos rfl, h]
  rfl
/-- block b of the list becomes o' -/
inductive Upd (b : Nat) (o' : Obj) : List (Nat × Obj) → Obj → List (Nat × Obj) → Prop
  | head {o : Obj} {Γ : List (Nat × Obj)} : Upd b o' ((b, o) :: Γ) o ((b, o') :: Γ)
  | tail {p : Nat × Obj} {Γ Γ' : List (Nat × Obj)} {o : Obj} (h : Upd b o' Γ o Γ') : Upd b o' (p :: Γ) o (p :: Γ')
theorem Upd.mem {b : Nat} {o o' : Obj} {Γ Γ' : List (Nat × Obj)} (h : Upd b o' Γ o Γ') : (b, o) ∈ Γ := by
  induction h with
  | head => exact List.mem_cons_self
  | tail _ ih => exact List.mem_cons_of_mem _ ih
theorem Upd.fst {b : Nat} {o o' : Obj} {Γ Γ' : List (Nat × Obj)} (h : Upd b o' Γ o Γ') : Γ'.map Prod.fst = Γ.map Prod.fst := by
  induction h with
  | head => rfl
  | tail _ ih => simp [ih]
theorem Upd.back {b : Nat} {o o' : Obj} {Γ Γ' : List (Nat × Obj)} (h : Upd b o' Γ o Γ') (hn : (Γ.map Prod.fst).Nodup) : ∀ p ∈ Γ', p = (b, o') ∨ (p ∈ Γ ∧ p.1 ≠ b) := by
  induction h with
  | head =>
    intro p hp
    simp only [List.map_cons, List.nodup_cons] at hn
    rcases List.mem_cons.1 hp with rfl | hp
    · exact .inl rfl
    · exact .inr ⟨List.mem_cons_of_mem _ hp, fun e => hn.1 (e ▸ List.mem_map_of_mem hp)⟩
  | tail h ih =>
    intro p hp
    simp only [List.map_cons, List.nodup_cons] at hn
    rcases List.mem_cons.1 hp with rfl | hp
    · exact .inr ⟨List.mem_cons_self, fun e => hn.1 (e ▸ List.mem_map_of_mem (f := Prod.fst) h.mem)⟩
    · rcases ih hn.2 p hp with h1 | ⟨h1, h2⟩
      · exact .inl h1
      · exact .inr ⟨List.mem_cons_of_mem _ h1, h2⟩
/-- a world that differs at one own block alone -/
theorem S.change {w0 w w' : World} {Γ Γ' : List (Nat × Obj)} {b : Nat} {o o' : Obj} (h : S w0 w Γ) (hu : Upd b o' Γ o Γ') (hos : w'.os = w.os) (hout : w'.output = w.output) (hsz : w.heap.size ≤ w'.heap.size)
    (hb : w'.heap[b]? = some o') (ho : ∀ c, c < w.heap.size → c ≠ b → w'.heap[c]? = w.heap[c]?) : S w0 w' Γ' := by
  have hge := (h.at' _ hu.mem).1
  refine ⟨⟨hos.trans h.ext.os, hout.trans h.ext.output, Nat.le_trans h.ext.size hsz, fun c hc => (ho c (Nat.lt_of_lt_of_le hc h.ext.size) (by simp at hge; omega)).trans (h.ext.heap c hc)⟩, by rw [hu.fst]; exact h.nodup, fun p hp => ?_⟩
  rcases hu.back h.nodup p hp with rfl | ⟨h1, h2⟩
  · exact ⟨hge, hb⟩
  · obtain ⟨h3, h4⟩ := h.at' p h1
    exact ⟨h3, (ho p.1 (lt_of_heap h4) h2).trans h4⟩
theorem St.s {w0 w : World} {Γ Γ' : List (Nat × Obj)} {b i : Nat} {c c' : Array Value} {t : TypeId} {v : Value} {K : World → Prop} (hS : S w0 w Γ) (hu : Upd b (.cells c' t (0, 0)) Γ (.cells c t (0, 0)) Γ') (hi : i < c.size) (hc : c.setIfInBounds i v = c')
    (hv : scalar v = true) (h : ∀ w', S w0 w' Γ' → K w') : St ⟨b, i, none⟩ v w K := by
  have hb := hS.obj hu.mem
  refine ⟨⟨c[i], by simp [World.cell?, hb, hi]⟩, by simp [World.frozen?, hb], hv, h _ (hS.change hu rfl rfl ?_ (by rw [setBlock_same hb, hc]) fun d _ hd => setBlock_other hd)⟩
  show w.heap.size ≤ (w.heap.modify b _).size
  rw [Array.size_modify]; exact Nat.le_refl _
/-- a call that hands back v, and makes no more than new memory -/
abbrev Ret (P : Program) (f : FuncId) (args : Array Value) (w : World) (v : Value) : Prop := Calls P f args w fun e w' => e = .returned v ∧ Ext w w'
theorem ret_of {P : Program} {f : FuncId} {args : Array Value} {w : World} {v : Value} (h : Calls P f args w fun e w' => ∃ u, e = .returned u ∧ (u = v ∧ Ext w w')) : Ret P f args w v :=
  h.mono fun _ _ ⟨_, he, hu, hx⟩ => ⟨hu ▸ he, hx⟩
theorem Ret.use {P : Program} {f : FuncId} {args : Array Value} {w : World} {v : Value} {Φ : Ending → World → Prop} (h : Ret P f args w v) (hk : ∀ w', Ext w w' → Φ (.returned v) w') : Calls P f args w Φ :=
  h.mono fun _ w' ⟨he, hx⟩ => he ▸ hk w' hx
theorem lex_s {w0 w : World} {Γ : List (Nat × Obj)} {B : (World → Prop) → Prop} (hS : S w0 w Γ) (h : S w0 w.drew Γ → B (fun w' => S w0 w' Γ)) : ∃ D : World → Prop, D w.drew ∧ B D := ⟨fun w' => S w0 w' Γ, hS.drew, h hS.drew⟩
theorem Ret.useS {P : Program} {f : FuncId} {args : Array Value} {w0 w : World} {Γ : List (Nat × Obj)} {v : Value} {Φ : Ending → World → Prop} (hS : S w0 w Γ) (h : Ret P f args w v) (hk : ∀ w', S w0 w' Γ → Φ (.returned v) w') : Calls P f args w Φ :=
  h.mono fun _ w' ⟨he, hx⟩ => he ▸ hk w' (hS.call hx)
theorem wrap64 (n : Int) (h : -9223372036854775808 ≤ n) (h' : n ≤ 9223372036854775807) : IntKind.i64.wrap n = n := by
  have e : IntKind.i64.wrap n = if n % 18446744073709551616 ≥ 9223372036854775808 then n % 18446744073709551616 - 18446744073709551616 else n % 18446744073709551616 := by
    unfold IntKind.wrap
    simp [IntKind.bits, IntKind.signed]
  rw [e]
  split <;> omega
theorem dec_t {p : Prop} [Decidable p] {A : Prop} (h : p → A) : decide p = true → A := fun e => h (of_decide_eq_true e)
theorem dec_f {p : Prop} [Decidable p] {A : Prop} (h : ¬ p → A) : decide p = false → A := fun e => h (of_decide_eq_false e)
theorem not_t {b : Bool} {A : Prop} (h : b = false → A) : (!b) = true → A := fun e => h (by simpa using e)
theorem not_f {b : Bool} {A : Prop} (h : b = true → A) : (!b) = false → A := fun e => h (by simpa using e)
theorem beq_t {x y : Int} {A : Prop} (h : x = y → A) : (x == y) = true → A := fun e => h (by simpa using e)
theorem beq_f {x y : Int} {A : Prop} (h : x ≠ y → A) : (x == y) = false → A := fun e => h (by simpa using e)
theorem bne_t {x y : Int} {A : Prop} (h : x ≠ y → A) : (x != y) = true → A := fun e => h (by simpa using e)
theorem bne_f {x y : Int} {A : Prop} (h : x = y → A) : (x != y) = false → A := fun e => h (by simpa using e)
theorem retInt {k : IntKind} {a b : Int} (h : a = b) : Value.int k a = Value.int k b := by rw [h]
theorem retBool {a b : Bool} (h : a = b) : Value.bool a = Value.bool b := by rw [h]
theorem min_run {P : Program} {k : IntKind} (ts : Array TypeId) (t : TypeId) (cs : Array Bool) (a b : Int) (w : World) : (builtin .min ts t cs #[.int k a, .int k b]).run P w = .ok (.value (.int k (if b < a then b else a))) w := by
  simp [builtin, Builtin.min_, Builtin.min2]
theorem max_run {P : Program} {k : IntKind} (ts : Array TypeId) (t : TypeId) (cs : Array Bool) (a b : Int) (w : World) : (builtin .max ts t cs #[.int k a, .int k b]).run P w = .ok (.value (.int k (if b > a then b else a))) w := by
  simp [builtin, Builtin.max_, Builtin.max2]
/-- what is asked at a function's end -/
abbrev RetR (w : World) (v : Value) : Value → World → Prop := fun u w' => u = v ∧ Ext w w'
end Go.Sh
