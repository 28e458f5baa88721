import Derived.Test.YtdppllkjibfjcaaSep
import Derived.Laws.AppendOwn
import Derived.Laws.MakeOwn
import Derived.Lib.ConvBytes
/-! Memory in parts, on: rows, great variables, maps by integers. -/
namespace Go.Sh
open Go.RowKit
theorem addr_add (b o n : Nat) : Addr.add ⟨b, o, none⟩ n = ⟨b, o + n, none⟩ := by simp [Addr.add]
theorem T.weak {F : List Nat} {w0 w : World} {Γ : List A} {x y : A} (h : T F w0 w (x :: Γ)) (hf : y.foot = x.foot) (hh : ∀ g, x.holds g → y.holds g) : T F w0 w (y :: Γ) := by
  have hfe : feet (y :: Γ) = feet (x :: Γ) := by simp [feet, hf]
  refine ⟨h.chg, hfe ▸ h.nodup, hfe ▸ h.own, fun a ha => ?_⟩
  rcases List.mem_cons.1 ha with rfl | ha
  · exact hh _ (h.holds _ List.mem_cons_self)
  · exact h.holds a (List.mem_cons_of_mem _ ha)
/-- what a part says of the world -/
theorem T.says {F : List Nat} {w0 w : World} {Γ : List A} {x : A} (h : T F w0 w Γ) (hm : x ∈ Γ) : x.holds (hp w) := h.holds x hm
/-- cells, from a place on, another way -/
def putAt (c : Array Value) (o : Nat) : List Value → Array Value
  | [] => c
  | v :: l => putAt (c.setIfInBounds o v) (o + 1) l
theorem putAt_size (l : List Value) : ∀ (c : Array Value) (o : Nat), (putAt c o l).size = c.size := by
  induction l with
  | nil => intro c o; rfl
  | cons v l ih => intro c o; simp [putAt, ih]
theorem putAt_get (l : List Value) : ∀ (c : Array Value) (o j : Nat), (putAt c o l)[j]? = if o ≤ j ∧ j < o + l.length ∧ j < c.size then l[j - o]? else c[j]? := by
  induction l with
  | nil =>
    intro c o j
    rw [if_neg (by simp; omega)]
    rfl
  | cons v l ih =>
    intro c o j
    simp only [putAt, ih, Array.size_setIfInBounds, List.length_cons]
    by_cases h1 : o = j
    · subst h1
      rw [if_neg (by omega)]
      by_cases h2 : o < c.size
      · rw [if_pos (by omega)]; simp [h2]
      · rw [if_neg (by omega)]; simp [h2]
    · by_cases h2 : o + 1 ≤ j ∧ j < o + 1 + l.length ∧ j < c.size
      · rw [if_pos h2, if_pos (by omega), show j - o = (j - (o + 1)) + 1 by omega, List.getElem?_cons_succ]
      · rw [if_neg h2, if_neg (by omega), Array.getElem?_setIfInBounds, if_neg h1]
theorem StL.t {F : List Nat} {w0 : World} {Δ : List A} {b o : Nat} {t : TypeId} {K : World → Prop} : ∀ (l : List Value) (i : Nat) (c : Array Value) (w : World), T F w0 w (blk b c t :: Δ) → (∀ v ∈ l, scalar v = true) → o + i + l.length ≤ c.size →
    (∀ w', T F w0 w' (blk b (putAt c (o + i) l) t :: Δ) → K w') → StL ⟨b, o, none⟩ K l i w
  | [], i, c, w, hT, _, _, h => h w hT
  | v :: l, i, c, w, hT, hv, hl, h => by
    simp only [List.length_cons] at hl
    rw [StL, addr_add]
    refine St.t hT .head (by omega) rfl (hv v List.mem_cons_self) fun w' hT' => ?_
    refine StL.t l (i + 1) _ w' hT' (fun u hu => hv u (List.mem_cons_of_mem _ hu)) (by simp; omega) fun w2 hT2 => h w2 ?_
    simpa only [putAt, Nat.add_assoc] using hT2
theorem stBig.t {P : Program} {t0 : TypeId} {i : TypeInfo} {F : List Nat} {w0 w : World} {Γ Δ : List A} {b o : Nat} {c cs : Array Value} {t : TypeId} {K : SV → World → Prop} (hT : T F w0 w Γ) (hk : Pick (blk b c t) Γ Δ) (hi : P.info? t0 = some i) (hs : cs.size = P.cellsOf t0)
    (hv : ∀ v ∈ cs.toList, scalar v = true) (hl : o + cs.size ≤ c.size) (h : ∀ w', T F w0 w' (blk b (putAt c o cs.toList) t :: Δ) → K (.v undef) w') : stBig P t0 ⟨b, o, none⟩ (.agg cs) K w := by
  have h1 : StL ⟨b, o, none⟩ (fun w' => T F w0 w' (blk b (putAt c o cs.toList) t :: Δ)) cs.toList 0 w := StL.t cs.toList 0 c w (hT.pick hk) hv (by simpa using hl) fun w' hT' => hT'
  obtain ⟨w', hr, hT'⟩ := StL_run (P := P) h1
  exact ⟨w', storeAgg_run hi hs hr, h w' hT'⟩
theorem T.big {F : List Nat} {w0 w : World} {Γ : List A} {b o : Nat} {c cs : Array Value} {t : TypeId} {f : Nat × Nat} (h : T F w0 w Γ) (hm : ob b (.cells c t f) ∈ Γ) (hc : ∀ i, i < cs.size → c[o + i]? = cs[i]?) : bigAt w ⟨b, o, none⟩ cs := by
  intro i hi
  rw [addr_add]
  have : cs[i]? = some cs[i] := by simp [hi]
  rw [this]
  exact h.ld hm ((hc i hi).trans this)
abbrev ptr (g : Option Nat) : Option Addr := g.map fun g => ⟨g, 0, none⟩
/-- a slice that has its row for itself: n items of so many cells -/
def rowP (e : TypeId) (size : Nat) (g : Option Nat) (n cap : Nat) (xs : List Value) : A where
  foot := g.toList
  holds h := xs.length = n * size ∧ n ≤ cap ∧ cap ≤ maxLen ∧ match g with
    | none => cap = 0
    | some g => ∃ cur, h g = some (.cells cur e (0, 0)) ∧ cur.size = cap * size ∧ cur.toList.take (n * size) = xs
  loc := by
    intro h h' he hh
    refine ⟨hh.1, hh.2.1, hh.2.2.1, ?_⟩
    cases g with
    | none => exact hh.2.2.2
    | some g =>
      obtain ⟨cur, h1, h2⟩ := hh.2.2.2
      exact ⟨cur, (he g (by simp)).trans h1, h2⟩
theorem rowP.pos {e : TypeId} {size n cap : Nat} {g : Option Nat} {xs : List Value} {h : Nat → Option Obj} (hh : (rowP e size g n cap xs).holds h) (hn : 0 < n) : ∃ b, g = some b := by
  cases g with
  | none =>
    have h1 : cap = 0 := hh.2.2.2
    have h2 : n ≤ cap := hh.2.1
    omega
  | some b => exact ⟨b, rfl⟩
theorem rowP.len {e : TypeId} {size n cap : Nat} {g : Option Nat} {xs : List Value} {h : Nat → Option Obj} (hh : (rowP e size g n cap xs).holds h) : xs.length = n * size := hh.1
theorem rowP.cell {w : World} {e : TypeId} {size n cap b : Nat} {xs : List Value} (hh : (rowP e size (some b) n cap xs).holds (hp w)) {k : Nat} {v : Value} (hk : xs[k]? = some v) : w.cell? ⟨b, k, none⟩ = some v := by
  obtain ⟨h1, _, _, cur, h2, _, h4⟩ := hh
  refine cell_of h2 ?_
  rw [← h4, List.getElem?_take] at hk
  split at hk
  · simpa using hk
  · cases hk
theorem T.fresh {F : List Nat} {w0 w : World} {Γ : List A} {b : Nat} {c : Array Value} {t : TypeId} {size n : Nat} (h : T F w0 w (blk b c t :: Γ)) (hc : c.size = n * size) (hn : n ≤ maxLen) : T F w0 w (rowP t size (some b) n n c.toList :: Γ) :=
  h.weak rfl fun g hg => ⟨by rw [Array.length_toList, hc], Nat.le_refl _, hn, c, hg, hc, by rw [← hc, ← Array.length_toList, List.take_length]⟩
theorem T.nilRow {F : List Nat} {w0 w : World} {Γ : List A} (h : T F w0 w Γ) (e : TypeId) (size : Nat) : T F w0 w (rowP e size none 0 0 [] :: Γ) :=
  ⟨h.chg, by simpa [feet, rowP] using h.nodup, fun b hb => h.own b (by simpa [feet, rowP] using hb), fun a ha => by
    rcases List.mem_cons.1 ha with rfl | ha
    · exact ⟨(Nat.zero_mul _).symm, Nat.le_refl _, Nat.zero_le _, rfl⟩
    · exact h.holds a ha⟩
/-- the world turns at one part alone, in its own blocks or in new ones -/
theorem T.turn {F : List Nat} {w0 w w' : World} {Δ : List A} {x y : A} (h : T F w0 w (x :: Δ)) (hos : w'.os = w.os) (hout : w'.output = w.output) (hsz : w.heap.size ≤ w'.heap.size)
    (ho : ∀ c, c < w.heap.size → c ∉ x.foot → w'.heap[c]? = w.heap[c]?) (hn : y.foot.Nodup) (hy : ∀ c, c ∈ y.foot → c < w'.heap.size ∧ (c ∈ x.foot ∨ w.heap.size ≤ c)) (hh : y.holds (hp w')) : T F w0 w' (y :: Δ) := by
  have h1 : T F w0 w ([x] ++ Δ) := h
  refine T.call (Γ' := [y]) h1 ⟨⟨hos, hout, hsz, fun b hb hm => ho b hb (by simpa [feet] using hm)⟩, by simpa [feet] using hn, fun b hb => by simpa [feet] using hy b (by simpa [feet] using hb), fun a ha => ?_⟩
  obtain rfl : a = y := by simpa using ha
  exact hh
/-- one cell of a row -/
theorem StRow.t {F : List Nat} {w0 w : World} {Γ Δ : List A} {e : TypeId} {size n cap b k : Nat} {xs : List Value} {v : Value} {K : World → Prop} (hT : T F w0 w Γ) (hk : Pick (rowP e size (some b) n cap xs) Γ Δ) (hkl : k < xs.length) (hv : scalar v = true)
    (h : ∀ w', T F w0 w' (rowP e size (some b) n cap (xs.set k v) :: Δ) → K w') : St ⟨b, k, none⟩ v w K := by
  have hT1 := hT.pick hk
  obtain ⟨h1, h2, h3, cur, h4, h5, h6⟩ := hT1.says List.mem_cons_self
  have h4' : w.heap[b]? = some (.cells cur e (0, 0)) := h4
  have hkc : k < cur.size := by
    have : xs.length ≤ cur.size := by rw [← h6]; simp [Nat.min_le_right]
    omega
  have hb : b < w.heap.size := lt_of_heap h4'
  refine ⟨⟨cur[k], by simp [World.cell?, h4', hkc]⟩, by simp [World.frozen?, h4'], hv, h _ (hT1.turn rfl rfl ?_ (fun c hc hn => setBlock_other fun e => hn (by simp [rowP, e])) (by simp [rowP]) ?_ ?_)⟩
  · show w.heap.size ≤ (w.heap.modify b _).size
    rw [Array.size_modify]; exact Nat.le_refl _
  · intro c hc
    obtain rfl : c = b := by simpa [rowP] using hc
    refine ⟨?_, .inl (by simp [rowP])⟩
    show c < (w.heap.modify c _).size
    rw [Array.size_modify]; exact hb
  · refine ⟨by simpa using h1, h2, h3, _, setBlock_same h4', by simpa using h5, ?_⟩
    rw [← h6, Array.toList_setIfInBounds, List.take_set]
/-- a row is put behind another one -/
theorem append_t {P : Program} {F : List Nat} {w0 w : World} {Γ Δ : List A} {t ty e : TypeId} {i : TypeInfo} {z : Value} {size : Nat} (cs : Array Bool) (ht : P.underlying t = some (.slice e)) (hi : P.info? e = some i) (hz : i.zero = some z) (hsize : i.size = size) (hzs : z.cells.size = size)
    {g : Option Nat} {n cap : Nat} {xs : List Value} (hT : T F w0 w Γ) (hk : Pick (rowP e size g n cap xs) Γ Δ) {a : Addr} {m c : Nat} {news : List Value} (hl : news.length = m * size) (hnews : ∀ j u, news[j]? = some u → w.cell? (a.add j) = some u) (h1 : ∀ u ∈ news, u.oneCell' = true)
    (h63 : n + m ≤ maxLen) (hbytes : (n + m) * i.bytes ≤ 140737488355328) :
    ∃ g' cap' w', (builtin .append #[t, t] ty cs #[.slice (ptr g) n cap, .slice (some a) m c]).run P w = .ok (.value (.slice (ptr g') (n + m) cap')) w' ∧ T F w0 w' (rowP e size g' (n + m) cap' (xs ++ news) :: Δ) := by
  subst hsize
  have hT1 := hT.pick hk
  obtain ⟨k1, k2, k3, k4⟩ := hT1.says List.mem_cons_self
  have hlen : (xs ++ news).length = (n + m) * i.size := by rw [List.length_append, k1, hl, Nat.add_mul]
  have hsmall : n + m ≤ 9223372036854775807 := by simp only [maxLen] at h63; omega
  have toB : ∀ {v : Value} {w' : World}, (Builtin.append_ #[t, t] ty #[.slice (ptr g) n cap, .slice (some a) m c]).run P w = .ok v w' → (builtin .append #[t, t] ty cs #[.slice (ptr g) n cap, .slice (some a) m c]).run P w = .ok (.value v) w' := by
    intro v w' h
    simp [builtin, h, Result.andThen]
  have grown : ∀ (old : Nat), old < n + m →
      T F w0 (w.drew.alloc (.cells (xs.toArray ++ news.toArray ++ Builtin.zeroCells z.cells (grownCap w (n + m) old e - (n + m))) e)) (rowP e i.size (some w.heap.size) (n + m) (grownCap w (n + m) old e) (xs ++ news) :: Δ) := by
    intro old ho
    have hge := grownCap_ge w (n + m) old e
    have hcm : grownCap w (n + m) old e ≤ maxLen := grownCap_le_maxLen w (n + m) old e h63
    have h2 : T F w0 w Δ := hT1.drop
    have h3 := h2.drew.alloc (.cells (xs.toArray ++ news.toArray ++ Builtin.zeroCells z.cells (grownCap w (n + m) old e - (n + m))) e)
    refine h3.weak rfl fun q hq => ⟨hlen, hge, hcm, _, hq, ?_, ?_⟩
    · simp only [Array.size_append, List.size_toArray, size_zeroCells, hzs, k1, hl, ← Nat.add_mul]
      congr 1
      omega
    · simp only [Array.toList_append, List.append_assoc]
      rw [← List.append_assoc, ← hlen]
      exact List.take_left
  cases g with
  | none =>
    obtain rfl : cap = 0 := k4
    obtain rfl : n = 0 := by omega
    have hx : xs = [] := List.eq_nil_of_length_eq_zero (by simpa using k1)
    subst hx
    by_cases hm : m = 0
    · subst hm
      have hn : news = [] := List.eq_nil_of_length_eq_zero (by simpa using hl)
      subst hn
      refine ⟨none, 0, w, toB ?_, hT1⟩
      simp [Builtin.append_, run_underlying ht, sizeOf, typeInfo, hi, Builtin.lenOf, Builtin.firstCells, loadCells, loadCellsFrom]
    · have hr := run_append_nil (P := P) w t ty e i z ht hi hz a m c news hl hnews (by omega) (by omega) (by have hb := hbytes; simp only [Nat.zero_add] at hb; omega)
      have hgr := grown 0 (by omega)
      simp only [Nat.zero_add, List.nil_append, Array.empty_append] at hgr ⊢
      exact ⟨some w.heap.size, _, _, toB hr, hgr⟩
  | some g =>
    obtain ⟨cur, hg, hcs, htake⟩ := k4
    by_cases hroom : n + m ≤ cap
    · have hfit : n * i.size + news.length ≤ cur.size := by rw [hl, hcs, ← Nat.add_mul]; exact Nat.mul_le_mul_right _ hroom
      have hr := run_append_room (P := P) w t ty e i ht hi g n cap cur hg a m c news hl hnews h1 hroom hfit
      have hgl : g < w.heap.size := lt_of_heap hg
      refine ⟨some g, cap, _, toB hr, hT1.turn rfl rfl (by simp) (fun q hq hne => setRow_other w g q _ fun e => hne (by simp [rowP, e])) (by simp [rowP]) (fun q hq => ?_) ⟨hlen, hroom, k3, _, setRow_heap w g cur _ e _ hg, ?_, ?_⟩⟩
      · obtain rfl : q = g := by simpa [rowP] using hq
        exact ⟨by simpa using hgl, .inl (by simp [rowP])⟩
      · simp only [List.size_toArray, List.length_append, List.length_take, List.length_drop, Array.length_toList]
        omega
      · rw [htake, ← hlen]
        exact List.take_left
    · have holds : ∀ j u, xs[j]? = some u → w.cell? ((⟨g, 0, none⟩ : Addr).add j) = some u := fun j u hu => by
        rw [addr_add, Nat.zero_add]
        exact rowP.cell (hT1.says List.mem_cons_self) hu
      have hr := run_append_grow (P := P) w t ty e i z ht hi hz ⟨g, 0, none⟩ n cap xs k1 holds a m c news hl hnews (by omega) (by omega) (growslice_fits (by omega) hbytes)
      exact ⟨some w.heap.size, _, _, toB hr, grown cap (by omega)⟩
/-- a map by integers: key, value, birth -/
abbrev Ent := Int × Value × Nat
def ent (x : Ent) : MapEntry := ⟨.int .i64 x.1, x.2.1, x.2.2⟩
abbrev mapP (b : Nat) (l : List Ent) (clock : Nat) : A := ob b (.map (l.map ent).toArray clock)
def findAt (k : Int) : List Ent → Nat → Option (Nat × Value)
  | [], _ => none
  | x :: l, i => if x.1 = k then some (i, x.2.1) else findAt k l (i + 1)
def setK (k : Int) (v : Value) : List Ent → List Ent
  | [] => []
  | x :: l => if x.1 = k then (k, v, x.2.2) :: l else x :: setK k v l
def eraseK (k : Int) : List Ent → List Ent
  | [] => []
  | x :: l => if x.1 = k then l else x :: eraseK k l
def getK (k : Int) : List Ent → Option Value
  | [] => none
  | x :: l => if x.1 = k then some x.2.1 else getK k l
theorem findAt_getK (k : Int) : ∀ (l : List Ent) (i : Nat), (findAt k l i).map Prod.snd = getK k l
  | [], _ => rfl
  | x :: l, i => by simp only [findAt, getK]; split <;> simp [findAt_getK k l]
theorem findNow_ints (k : Int) : ∀ (l : List Ent) (i : Nat), Instr.findNow (.int .i64) (.int .i64 k) (l.map ent) i = some (findAt k l i)
  | [], _ => rfl
  | x :: l, i => by
    simp only [List.map_cons, Instr.findNow, Instr.sameNow, ent, findAt, if_true]
    by_cases h : x.1 = k
    · simp [h]
    · have : (k == x.1) = false := by simp; exact fun e => h e.symm
      simp only [this, if_neg h]
      exact findNow_ints k l (i + 1)
theorem checkKey_succ {P : Program} {t : TypeId} (ht : P.underlying t = some (.int .i64)) (b : Bool) (k : Int) (w : World) (n : Nat) : (Instr.checkKey b (n + 1) t (.int .i64 k)).run P w = .ok () w := by
  simp [Instr.checkKey, run_underlying ht]
theorem checkKey_int {P : Program} {t : TypeId} (ht : P.underlying t = some (.int .i64)) (b : Bool) (k : Int) (w : World) : (Instr.checkKey b 10000 t (.int .i64 k)).run P w = .ok () w := checkKey_succ ht b k w 9999
theorem findKey_ints {P : Program} {t : TypeId} (ht : P.underlying t = some (.int .i64)) (k : Int) (l : List Ent) (w : World) : (Instr.findKey t (.int .i64 k) (l.map ent)).run P w = .ok (findAt k l 0) w := by
  simp [Instr.findKey, run_underlying ht, findNow_ints]
theorem lookup_ints {P : Program} {t kt e : TypeId} {z : Value} {w : World} (ht : P.underlying t = some (.map kt e)) (hk : P.underlying kt = some (.int .i64)) (hz : (zeroValue e).run P w = .ok z w) {b clock : Nat} {l : List Ent} (hb : w.heap[b]? = some (.map (l.map ent).toArray clock)) (k : Int) :
    (Instr.lookup t (.map (some b)) (.int .i64 k) false).run P w = .ok ((getK k l).getD z) w := by
  have h1 := checkKey_int (P := P) hk (l.map ent).toArray.isEmpty k w
  have h2 := findKey_ints (P := P) hk k l w
  have h3 := findAt_getK k l 0
  simp only [Instr.lookup, Sem.run_bind, run_underlying ht, Result.andThen_ok, getObj, Sem.run, hb, Sem.run_pure, h1, h2]
  cases hf : findAt k l 0 with
  | none => rw [hf] at h3; simp [← h3, hz]
  | some x => rw [hf] at h3; simp [← h3]
end Go.Sh
