import Derived.Test.YtdppllkjibfjcaaMem
/-! Memory in parts, on: maps by integers that turn; texts and bytes. -/
namespace Go.Sh
open Go.RowKit
theorem setObj_run {P : Program} {w : World} {b : Nat} {o o' : Obj} (hb : w.heap[b]? = some o) (hc : ∀ c t f, o ≠ .cells c t f) : (setObj b o').run P w = .ok () { w with heap := w.heap.setIfInBounds b o' } := by
  cases o <;> first | (exact absurd rfl (hc _ _ _)) | simp [setObj, Sem.run, hb]
theorem getObj_map {P : Program} {w : World} {b : Nat} {es : Array MapEntry} {c : Nat} (hb : w.heap[b]? = some (.map es c)) : (getObj b).run P w = .ok (.map es c) w := by simp [getObj, Sem.run, hb]
/-- a block that no cells lie in turns into another one -/
theorem T.set {F : List Nat} {w0 w : World} {Γ Γ' : List A} {b : Nat} {o o' : Obj} (h : T F w0 w Γ) (hu : Turn (ob b o) (ob b o') Γ Γ') : T F w0 { w with heap := w.heap.setIfInBounds b o' } Γ' := by
  obtain ⟨Δ, h1, _⟩ := hu.perm
  have hb : w.heap[b]? = some o := h.got (h1.mem_iff.2 List.mem_cons_self)
  have hl := lt_of_heap hb
  refine h.change hu rfl rfl (by simp) ?_ fun c hc => ?_
  · show (w.heap.setIfInBounds b o')[b]? = _
    simp [hl]
  · show (w.heap.setIfInBounds b o')[c]? = _
    rw [Array.getElem?_setIfInBounds, if_neg (fun e => hc e.symm)]
theorem findAt_lt (k : Int) : ∀ (l : List Ent) (i j : Nat) (v : Value), findAt k l i = some (j, v) → i ≤ j ∧ ∃ x, l[j - i]? = some x ∧ x.1 = k
  | [], _, _, _, h => by cases h
  | x :: l, i, j, v, h => by
    simp only [findAt] at h
    split at h
    · rename_i hx
      obtain ⟨rfl, rfl⟩ := by simpa using h
      exact ⟨Nat.le_refl _, x, by simp, hx⟩
    · obtain ⟨h1, y, h2, h3⟩ := findAt_lt k l (i + 1) j v h
      exact ⟨by omega, y, by rw [show j - i = (j - (i + 1)) + 1 by omega, List.getElem?_cons_succ]; exact h2, h3⟩
theorem modify_set (k : Int) (u : Value) : ∀ (l : List Ent) (i j : Nat) (v : Value), findAt k l i = some (j, v) → (l.map ent).modify (j - i) (fun e => { e with key := .int .i64 k, val := u }) = (setK k u l).map ent
  | [], _, _, _, h => by cases h
  | x :: l, i, j, v, h => by
    simp only [findAt] at h
    split at h
    · rename_i hx
      obtain ⟨rfl, rfl⟩ := by simpa using h
      simp [setK, hx, ent]
    · rename_i hx
      have h1 := (findAt_lt k l (i + 1) j v h).1
      have h2 := modify_set k u l (i + 1) j v h
      rw [show j - i = (j - (i + 1)) + 1 by omega]
      simp only [List.map_cons, List.modify_succ_cons, setK, if_neg hx, h2]
theorem erase_set (k : Int) : ∀ (l : List Ent) (i j : Nat) (v : Value), findAt k l i = some (j, v) → (l.map ent).eraseIdx (j - i) = (eraseK k l).map ent
  | [], _, _, _, h => by cases h
  | x :: l, i, j, v, h => by
    simp only [findAt] at h
    split at h
    · rename_i hx
      obtain ⟨rfl, rfl⟩ := by simpa using h
      simp [eraseK, hx]
    · rename_i hx
      have h1 := (findAt_lt k l (i + 1) j v h).1
      have h2 := erase_set k l (i + 1) j v h
      rw [show j - i = (j - (i + 1)) + 1 by omega]
      simp only [List.map_cons, List.eraseIdx_cons_succ, eraseK, if_neg hx, h2]
theorem findAt_none {k : Int} : ∀ {l : List Ent} {i : Nat}, findAt k l i = none → setK k undef l = l ∧ eraseK k l = l
  | [], _, _ => ⟨rfl, rfl⟩
  | x :: l, i, h => by
    simp only [findAt] at h
    split at h
    · cases h
    · rename_i hx
      have := findAt_none h
      simp only [setK, eraseK, if_neg hx, this, and_self]
/-- a map with a key more, or with another value at it -/
def putK (k : Int) (v : Value) (l : List Ent) (clock : Nat) : List Ent := if (getK k l).isSome then setK k v l else l ++ [(k, v, clock)]
def clockK (k : Int) (l : List Ent) (clock : Nat) : Nat := if (getK k l).isSome then clock else clock + 1
theorem mapUpdate_t {P : Program} {F : List Nat} {w0 w : World} {Γ Γ' : List A} {t kt e : TypeId} {b clock : Nat} {l : List Ent} {k : Int} {v : Value} (ht : P.underlying t = some (.map kt e)) (hk : P.underlying kt = some (.int .i64)) (hT : T F w0 w Γ)
    (hu : Turn (mapP b l clock) (mapP b (putK k v l clock) (clockK k l clock)) Γ Γ') : ∃ w', (Instr.mapUpdate t (.map (some b)) (.int .i64 k) v).run P w = .ok () w' ∧ T F w0 w' Γ' := by
  obtain ⟨Δ, hp1, _⟩ := hu.perm
  have hb : w.heap[b]? = some (.map (l.map ent).toArray clock) := hT.got (hp1.mem_iff.2 List.mem_cons_self)
  refine ⟨_, ?_, hT.set hu⟩
  have h1 := checkKey_int (P := P) hk false k w
  have h2 := findKey_ints (P := P) hk k l w
  have h3 := findAt_getK k l 0
  have hne : ∀ c t f, Obj.map (l.map ent).toArray clock ≠ .cells c t f := fun _ _ _ h => by cases h
  simp only [Instr.mapUpdate, Sem.run_bind, run_underlying ht, Result.andThen_ok, getObj_map hb, h1, h2]
  cases hf : findAt k l 0 with
  | none =>
    have hg : getK k l = none := by rw [hf] at h3; exact h3.symm
    simp only [setObj_run hb hne, putK, clockK, hg, Option.isSome_none, Bool.false_eq_true, if_false, List.map_append, List.map_cons, List.map_nil, ent, List.push_toArray]
  | some x =>
    obtain ⟨j, u⟩ := x
    have hg : getK k l = some u := by rw [hf] at h3; exact h3.symm
    obtain ⟨_, y, hy, hyk⟩ := findAt_lt k l 0 j u hf
    have hm := modify_set k v l 0 j u hf
    simp only [Nat.sub_zero] at hy hm
    have hkey : ((((l.map ent).toArray)[j]?).map (·.key)).getD (.int .i64 k) = .int .i64 k := by simp [hy, ent, hyk]
    have hsb : Instr.sameBits 10000 (.int .i64 k) (.int .i64 k) = true := by simp [Instr.sameBits]
    simp only [hkey, Instr.keyThatStays, hsb, if_true, Sem.run_bind, Sem.run_pure, Result.andThen_ok, setObj_run hb hne, putK, clockK, hg, Option.isSome_some, List.modify_toArray, hm]
theorem delete_t {P : Program} {F : List Nat} {w0 w : World} {Γ Γ' : List A} {t kt e ty : TypeId} {ts : Array TypeId} {cs : Array Bool} {b clock : Nat} {l : List Ent} {k : Int} (hts : ts[0]? = some t) (ht : P.underlying t = some (.map kt e)) (hk : P.underlying kt = some (.int .i64)) (hT : T F w0 w Γ)
    (hu : Turn (mapP b l clock) (mapP b (eraseK k l) clock) Γ Γ') : ∃ w', (builtin .delete ts ty cs #[.map (some b), .int .i64 k]).run P w = .ok (.value (.tuple #[])) w' ∧ T F w0 w' Γ' := by
  obtain ⟨Δ, hp1, _⟩ := hu.perm
  have hb : w.heap[b]? = some (.map (l.map ent).toArray clock) := hT.got (hp1.mem_iff.2 List.mem_cons_self)
  refine ⟨_, ?_, hT.set hu⟩
  have h1 := checkKey_int (P := P) hk (l.map ent).toArray.isEmpty k w
  have h2 := findKey_ints (P := P) hk k l w
  have hne : ∀ c t f, Obj.map (l.map ent).toArray clock ≠ .cells c t f := fun _ _ _ h => by cases h
  have e1 : (#[Value.map (some b), Value.int .i64 k] : Array Value)[0]? = some (.map (some b)) := rfl
  have e2 : (#[Value.map (some b), Value.int .i64 k] : Array Value)[1]? = some (.int .i64 k) := rfl
  simp only [builtin, Builtin.delete_, hts, e1, e2, Sem.run_bind, run_underlying ht, Result.andThen_ok, getObj_map hb, h1, h2]
  cases hf : findAt k l 0 with
  | none => simp only [Sem.run_bind, setObj_run hb hne, (findAt_none hf).2, Result.andThen_ok, Sem.run_pure]
  | some x =>
    obtain ⟨j, u⟩ := x
    have hm := erase_set k l 0 j u hf
    simp only [Nat.sub_zero] at hm
    have hj := findAt_lt k l 0 j u hf
    have he : (l.map ent).toArray.eraseIdxIfInBounds j = ((eraseK k l).map ent).toArray := by
      rw [← hm]; apply Array.toList_inj.1; simp
    simp only [he, Sem.run_bind, setObj_run hb hne, Result.andThen_ok, Sem.run_pure]
theorem clear_t {P : Program} {F : List Nat} {w0 w : World} {Γ Γ' : List A} {t kt e ty : TypeId} {ts : Array TypeId} {cs : Array Bool} {b clock : Nat} {l : List Ent} (hts : ts[0]? = some t) (ht : P.underlying t = some (.map kt e)) (hT : T F w0 w Γ)
    (hu : Turn (mapP b l clock) (mapP b [] clock) Γ Γ') : ∃ w', (builtin .clear ts ty cs #[.map (some b)]).run P w = .ok (.value (.tuple #[])) w' ∧ T F w0 w' Γ' := by
  obtain ⟨Δ, hp1, _⟩ := hu.perm
  have hb : w.heap[b]? = some (.map (l.map ent).toArray clock) := hT.got (hp1.mem_iff.2 List.mem_cons_self)
  refine ⟨_, ?_, hT.set hu⟩
  have hne : ∀ c t f, Obj.map (l.map ent).toArray clock ≠ .cells c t f := fun _ _ _ h => by cases h
  have e1 : (#[Value.map (some b)] : Array Value)[0]? = some (.map (some b)) := rfl
  simp only [builtin, Builtin.clear_, hts, e1, Sem.run_bind, run_underlying ht, Result.andThen_ok, getObj_map hb, setObj_run hb hne, Sem.run_pure, List.map_nil]
/-- parts outlive new memory -/
theorem Has.ext {w w' : World} {Γ : List A} (h : Has w Γ) (he : Ext w w') : Has w' Γ :=
  ⟨h.nodup, fun b hb => Nat.lt_of_lt_of_le (h.lt b hb) he.size, fun a ha => A.keep (h.holds a ha) fun b hb => he.heap b (h.lt b (feet_mem ha hb))⟩
theorem Has.got {w : World} {Γ : List A} (h : Has w Γ) {b : Nat} {o : Obj} (hm : ob b o ∈ Γ) : w.heap[b]? = some o := h.holds _ hm
theorem Has.ld {w0 w : World} {Γ : List A} {Δ : List (Nat × Obj)} (h : Has w0 Γ) (hS : S w0 w Δ) {b i : Nat} {c : Array Value} {t : TypeId} {f : Nat × Nat} {v : Value} (hm : ob b (.cells c t f) ∈ Γ) (hv : c[i]? = some v) : w.cell? ⟨b, i, none⟩ = some v :=
  cell_of (hS.ext.get (h.got hm)) hv
theorem Has.ldA {w0 w : World} {Γ : List A} {Δ : List (Nat × Obj)} (h : Has w0 Γ) (hS : S w0 w Δ) {b i n : Nat} {c : Array Value} {t : TypeId} {f : Nat × Nat} {v : Value} (hm : ob b (.cells c t f) ∈ Γ) (hv : c[i + n]? = some v) : w.cell? (Addr.add ⟨b, i, none⟩ n) = some v := by
  rw [addr_add]; exact h.ld hS hm hv
theorem T.ldA {F : List Nat} {w0 w : World} {Γ : List A} (h : T F w0 w Γ) {b i n : Nat} {c : Array Value} {t : TypeId} {f : Nat × Nat} {v : Value} (hm : ob b (.cells c t f) ∈ Γ) (hv : c[i + n]? = some v) : w.cell? (Addr.add ⟨b, i, none⟩ n) = some v := by
  rw [addr_add]; exact h.ld hm hv
theorem St.tA {F : List Nat} {w0 w : World} {Γ Γ' : List A} {b i n : Nat} {c c' : Array Value} {t : TypeId} {v : Value} {K : World → Prop} (hT : T F w0 w Γ) (hu : Turn (blk b c t) (blk b c' t) Γ Γ') (hi : i + n < c.size) (hc : c.setIfInBounds (i + n) v = c')
    (hv : scalar v = true) (h : ∀ w', T F w0 w' Γ' → K w') : St (Addr.add ⟨b, i, none⟩ n) v w K := by
  rw [addr_add]; exact St.t hT hu hi hc hv h
end Go.Sh
