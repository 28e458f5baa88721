import Derived.Test.YtdppllkjibfjcaaAb3
import Derived.Laws.Strings
/-! drive's laws: what they lean on. -/
namespace Go.Proofs.Ytdppllkjibfjcaa
open Go.Sh Go.Maps
set_option linter.unusedVariables false
set_option maxHeartbeats 1000000
set_option maxRecDepth 20000
theorem no {c : Bool} {A B : Prop} (h : c = false) (hb : B) : (c = true → A) ∧ (c = false → B) := ⟨fun e => (by rw [h] at e; cases e), fun _ => hb⟩
theorem yes {c : Bool} {A B : Prop} (h : c = true) (ha : A) : (c = true → A) ∧ (c = false → B) := ⟨fun _ => ha, fun e => (by rw [h] at e; cases e)⟩
theorem same_str (s : ByteArray) : (s.toList == s.toList) = true := by simp
theorem bytes_inj {s t : ByteArray} (h : s.toList = t.toList) : s = t := by
  rw [ByteArray.toList_eq, ByteArray.toList_eq] at h
  cases s; cases t
  simpa using h
/-- a text filled up to a sector -/
def fullB (s : ByteArray) : ByteArray := (s ++ zeroSec).extract 0 64
theorem fullB_size (s : ByteArray) : (fullB s).size = 64 := by
  unfold fullB
  rw [ByteArray.size_extract, ByteArray.size_append, zeroSec_size]
  omega
theorem slice_to {P : Program} {t : TypeId} {s : ByteArray} {k : IntKind} {hi : Int} {w : World} (ht : P.underlying t = some .string) (h0 : 0 ≤ hi) (h2 : hi ≤ (s.size : Int)) :
    (Instr.sliceAt t (.string s) none (some (.int k hi)) none).run P w = .ok (.string (s.extract 0 hi.toNat)) w := by
  have h3 : 0 ≤ hi ∧ hi ≤ (s.size : Int) := ⟨h0, h2⟩
  simp [Instr.sliceAt, Instr.slice, Instr.sliceBounds, Instr.sliceBound, asIntOf, underlying_run ht, h3]
theorem slice_from {P : Program} {t : TypeId} {s : ByteArray} {k : IntKind} {lo : Int} {w : World} (ht : P.underlying t = some .string) (h0 : 0 ≤ lo) (h2 : lo ≤ (s.size : Int)) :
    (Instr.sliceAt t (.string s) (some (.int k lo)) none none).run P w = .ok (.string (s.extract lo.toNat s.size)) w := by
  have h3 : 0 ≤ lo ∧ lo ≤ (s.size : Int) := ⟨h0, h2⟩
  simp [Instr.sliceAt, Instr.slice, Instr.sliceBounds, Instr.sliceBound, asIntOf, underlying_run ht, h3]
theorem full_spec (s : ByteArray) (hs : s.size ≤ 9000000000000000000) (w : World) : Ret Try.prog 15 #[.string s] w (.string (fullB s)) := by
  refine ret_of (revetmentlaw04_full_calls ?_)
  unfold revetmentlaw04_full
  refine (blank_spec w).mono fun e w1 ⟨he, hx⟩ => ⟨_, he, by rw [zeroSec_size]; omega, _, _, slice_to (by kernel_rfl) (by omega) (by rw [ByteArray.size_append, zeroSec_size]; omega), rfl, hx⟩
/-- a drive that is on, with so many sectors -/
structure AD.On (a : AD) (n : Nat) : Prop where
  dead : a.dead = false
  power : a.power = none
  len : a.safe.length = n
theorem AD.On.may {a : AD} {n : Nat} (h : a.On n) {i : Int} (hi : 0 ≤ i ∧ i < (n : Int)) : a.may i = 0 := by
  unfold AD.may AD.off
  rw [h.dead, h.power, h.len]
  rw [if_neg (by simp), if_neg (by simp), if_neg (by omega)]
theorem AD.On.put {a : AD} {n : Nat} (h : a.On n) {i : Int} (hi : 0 ≤ i ∧ i < (n : Int)) {s : ByteArray} (hs : s.size = 64) : a.put i s = 0 := by
  unfold AD.put
  rw [h.may hi]
  simp [hs]
theorem AD.On.flush1 {a : AD} {n : Nat} (h : a.On n) : a.flush1 = 0 := by
  unfold AD.flush1 AD.off
  rw [h.dead, h.power]
  simp
theorem AD.On.write {a : AD} {n : Nat} (h : a.On n) (i : Int) (s : ByteArray) : (a.write i s).On n := by
  unfold AD.write
  split
  · exact h
  · exact ⟨h.dead, by rw [h.power]; rfl, h.len⟩
theorem keptFrom_len (g : Nat → Nat → Nat) (pend : Nat → List ByteArray) : ∀ (l : List ByteArray) (i k : Nat), (keptFrom g pend i k l).length = l.length
  | [], _, _ => rfl
  | s :: l, i, k => by
    simp only [keptFrom]
    split <;> simp [keptFrom_len g pend l]
theorem AD.On.flush {a : AD} {n : Nat} (h : a.On n) : a.flush.On n := by
  unfold AD.flush
  split
  · exact h
  · exact ⟨h.dead, by simp [AD.settle, h.power], by simp [AD.settle, keptFrom_len, h.len]⟩
theorem AD.On.spoil {a : AD} {n : Nat} (h : a.On n) (i : Int) : (a.spoil i).On n := by
  unfold AD.spoil
  split
  · exact h
  · exact ⟨h.dead, h.power, h.len⟩
theorem AD.On.change {a : AD} {n : Nat} (h : a.On n) (i : Int) (s : ByteArray) : (a.change i s).On n := by
  unfold AD.change
  split
  · exact h
  · exact ⟨h.dead, h.power, by simp [h.len]⟩
theorem AD.On.new (n : Nat) : (AD.new n).On n := ⟨rfl, rfl, List.length_replicate⟩
theorem AD.write_of {a : AD} {i : Int} {s : ByteArray} (h : a.put i s = 0) : a.write i s = { a with pend := fun j => if j = i.toNat then a.pend j ++ [s] else a.pend j, spoilt := fun j => if j = i.toNat then false else a.spoilt j, power := a.power.map (· - 1) } := by
  unfold AD.write; rw [if_neg (by simpa using h)]
theorem AD.flush_of {a : AD} (h : a.flush1 = 0) : a.flush = { a with power := a.power.map (· - 1) }.settle fun _ m => m := by
  unfold AD.flush; rw [if_neg (by simpa using h)]
theorem AD.spoil_of {a : AD} {i : Int} (h : a.may i = 0) : a.spoil i = { a with spoilt := fun j => if j = i.toNat then true else a.spoilt j } := by
  unfold AD.spoil; rw [if_neg (by simpa using h)]
theorem AD.change_of {a : AD} {i : Int} {s : ByteArray} (h : a.put i s = 0) : a.change i s = { a with safe := a.safe.set i.toNat s, pend := fun j => if j = i.toNat then [] else a.pend j } := by
  unfold AD.change; rw [if_neg (by simpa using h)]
theorem AD.read_of {a : AD} {i : Int} (h : a.may i = 0) : a.read i = if a.spoilt i.toNat then (noB, 41) else (a.top i.toNat, 0) := by
  unfold AD.read; rw [if_neg (by simpa using h)]
theorem keptFrom_get (g : Nat → Nat → Nat) (pend : Nat → List ByteArray) (x : ByteArray) : ∀ (l : List ByteArray) (i k j : Nat), j < l.length → ∃ k', (keptFrom g pend i k l).getD j x = if pend (i + j) = [] then l.getD j x else if 0 < g k' (pend (i + j)).length then (pend (i + j)).getD (g k' (pend (i + j)).length - 1) noB else l.getD j x
  | s :: l, i, k, 0, _ => by
    refine ⟨k, ?_⟩
    simp only [keptFrom, Nat.add_zero]
    split <;> simp
  | s :: l, i, k, j + 1, h => by
    simp only [List.length_cons] at h
    simp only [keptFrom]
    by_cases hp : pend i = []
    · obtain ⟨k', hk⟩ := keptFrom_get g pend x l (i + 1) k j (by omega)
      refine ⟨k', ?_⟩
      rw [if_pos hp, show i + (j + 1) = i + 1 + j by omega]
      simpa using hk
    · obtain ⟨k', hk⟩ := keptFrom_get g pend x l (i + 1) (k + 1) j (by omega)
      refine ⟨k', ?_⟩
      rw [if_neg hp, show i + (j + 1) = i + 1 + j by omega]
      simpa using hk
theorem keptFrom_one (g : Nat → Nat → Nat) (pend : Nat → List ByteArray) (s : ByteArray) : keptFrom g pend 0 0 [s] = [if pend 0 = [] then s else if 0 < g 0 (pend 0).length then (pend 0).getD (g 0 (pend 0).length - 1) noB else s] := by
  simp only [keptFrom]
  split <;> rfl
/-- what is safe behind a flush -/
theorem AD.flush_safe {a : AD} (h : a.flush1 = 0) {j : Nat} (hj : j < a.safe.length) : a.flush.safe.getD j noB = a.top j ∧ a.flush.pend j = [] ∧ a.flush.spoilt j = a.spoilt j := by
  rw [AD.flush_of h]
  refine ⟨?_, rfl, rfl⟩
  obtain ⟨k', hk⟩ := keptFrom_get (fun _ m => m) a.pend noB a.safe 0 0 j hj
  show (keptFrom (fun _ m => m) a.pend 0 0 a.safe).getD j noB = _
  rw [hk, Nat.zero_add]
  unfold AD.top
  by_cases hp : a.pend j = []
  · rw [if_pos hp, hp]; rfl
  · have hl : 0 < (a.pend j).length := List.length_pos_iff.2 hp
    rw [if_neg hp, if_pos hl, List.getLast?_eq_some_getLast hp, List.getD_eq_getElem?_getD, List.getElem?_eq_getElem (by omega), ← List.getLast_eq_getElem hp]
    rfl
theorem AD.top_none {a : AD} {j : Nat} (h : a.pend j = []) : a.top j = a.safe.getD j noB := by unfold AD.top; rw [h]; rfl
theorem AD.write_top {a : AD} {i : Int} {s : ByteArray} (h : a.put i s = 0) (j : Nat) : (a.write i s).top j = if j = i.toNat then s else a.top j := by
  rw [AD.write_of h]
  unfold AD.top
  by_cases hj : j = i.toNat
  · simp [hj]
  · simp [hj]
theorem few_new (n N : Nat) : (AD.new n).Few N := fun _ => Nat.zero_le _
theorem AD.Few.write {a : AD} {N : Nat} (h : a.Few N) (i : Int) (s : ByteArray) : (a.write i s).Few (N + 1) := by
  intro j
  have := h j
  unfold AD.write
  split
  · omega
  · simp only
    split
    · simp; omega
    · omega
theorem AD.Few.flush {a : AD} {N : Nat} (h : a.Few N) : a.flush.Few N := by
  intro j
  unfold AD.flush
  split
  · exact h j
  · exact Nat.zero_le _
theorem AD.Few.spoil {a : AD} {N : Nat} (h : a.Few N) (i : Int) : (a.spoil i).Few N := by
  intro j
  unfold AD.spoil
  split <;> exact h j
theorem AD.Few.mono {a : AD} {N M : Nat} (h : a.Few N) (hm : N ≤ M) : a.Few M := fun j => Nat.le_trans (h j) hm
section
variable {p : Nat} {a : AD} {F : List Nat} {w0 w : World} {X : List A} {Φ : Ending → World → Prop}
theorem write_u (h : Dr p a F w0 w X) (hF : a.Few 1000000) {i : Int} {s : ByteArray} {n : Int} (hn : a.put i s = n) (hk : ∀ w', Dr p (a.write i s) F w0 w' X → Φ (.returned (.int .i64 n)) w') : Calls Try.prog 14 #[.pointer (some ⟨p, 0, none⟩), .int .i64 i, .string s] w Φ :=
  (write_a h hF i s).mono fun e w' ⟨he, hd⟩ => by rw [he, hn]; exact hk w' hd
theorem flush_u (h : Dr p a F w0 w X) (hF : a.Few 1000000) {n : Int} (hn : a.flush1 = n) (hk : ∀ w', Dr p a.flush F w0 w' X → Φ (.returned (.int .i64 n)) w') : Calls Try.prog 16 #[.pointer (some ⟨p, 0, none⟩)] w Φ :=
  (flush_a h hF).mono fun e w' ⟨he, hd⟩ => by rw [he, hn]; exact hk w' hd
theorem spoil_u (h : Dr p a F w0 w X) {i n : Int} (hn : a.may i = n) (hk : ∀ w', Dr p (a.spoil i) F w0 w' X → Φ (.returned (.int .i64 n)) w') : Calls Try.prog 21 #[.pointer (some ⟨p, 0, none⟩), .int .i64 i] w Φ :=
  (spoil_a h i).mono fun e w' ⟨he, hd⟩ => by rw [he, hn]; exact hk w' hd
theorem change_u (h : Dr p a F w0 w X) {i : Int} {s : ByteArray} {n : Int} (hn : a.put i s = n) (hk : ∀ w', Dr p (a.change i s) F w0 w' X → Φ (.returned (.int .i64 n)) w') : Calls Try.prog 30 #[.pointer (some ⟨p, 0, none⟩), .int .i64 i, .string s] w Φ :=
  (change_a h i s).mono fun e w' ⟨he, hd⟩ => by rw [he, hn]; exact hk w' hd
theorem read_u (h : Dr p a F w0 w X) (hF : a.Few 1000000) {i : Int} {s : ByteArray} {n : Int} (hn : a.read i = (s, n)) (hk : ∀ w', Dr p a F w0 w' X → Φ (.returned (.tuple #[.string s, .int .i64 n])) w') : Calls Try.prog 18 #[.pointer (some ⟨p, 0, none⟩), .int .i64 i] w Φ :=
  (read_a h hF i).mono fun e w' ⟨he, hx⟩ => by rw [he, hn]; exact hk w' (h.quiet hx)
theorem safe_u (h : Dr p a F w0 w X) {i : Int} {s : ByteArray} {n : Int} (hn : a.safeAt i = (s, n)) (hk : ∀ w', Dr p a F w0 w' X → Φ (.returned (.tuple #[.string s, .int .i64 n])) w') : Calls Try.prog 22 #[.pointer (some ⟨p, 0, none⟩), .int .i64 i] w Φ :=
  (safe_a h i).mono fun e w' ⟨he, hx⟩ => by rw [he, hn]; exact hk w' (h.quiet hx)
theorem pending_u (h : Dr p a F w0 w X) (hF : a.Few 1000000) {n : Nat} (hn : a.pending = n) (hk : ∀ w', Dr p a F w0 w' X → Φ (.returned (.int .i64 n)) w') : Calls Try.prog 19 #[.pointer (some ⟨p, 0, none⟩)] w Φ :=
  (pending_a h hF).mono fun e w' ⟨he, hx⟩ => by rw [he, hn]; exact hk w' (h.quiet hx)
theorem full_u (h : Dr p a F w0 w X) {s : ByteArray} (hs : s.size ≤ 9000000000000000000) (hk : ∀ w', Dr p a F w0 w' X → Φ (.returned (.string (fullB s))) w') : Calls Try.prog 15 #[.string s] w Φ :=
  (full_spec s hs w).mono fun e w' ⟨he, hx⟩ => by rw [he]; exact hk w' (h.quiet hx)
theorem new_u (hT : T F w0 w X) {n : Nat} (hn : 1 ≤ n ∧ n ≤ 4096) (hk : ∀ p w', Dr p (AD.new n) F w0 w' X → Φ (.returned (.pointer (some ⟨p, 0, none⟩))) w') : Calls Try.prog 13 #[.int .i64 n] w Φ :=
  (new_a n hT (by omega)).mono fun e w' ⟨p, he, hd⟩ => by rw [he]; exact hk p w' hd
end
theorem Dr.ext {p : Nat} {a : AD} {w0 w : World} {X : List A} (h : Dr p a [] w0 w X) : Ext w0 w := by
  obtain ⟨D, _, _, hT⟩ := h
  exact hT.chg.ext
theorem size_lit (l : List UInt8) (h : l.length ≤ 100) : (ByteArray.mk l.toArray).size ≤ 9000000000000000000 := by
  show l.toArray.size ≤ _
  simp; omega
theorem pend_new (n : Nat) : (AD.new n).pending = 0 := by
  unfold AD.pending AD.new
  have : ∀ l : List Nat, (l.map fun _ => ([] : List ByteArray).length).sum = 0 := by
    intro l; induction l with
    | nil => rfl
    | cons x l ih => simp only [List.map_cons, List.sum_cons, ih]; rfl
  exact this _
theorem pending_write {a : AD} {i : Int} {s : ByteArray} (h : a.put i s = 0) : (a.write i s).pending = a.pending + 1 := by
  have hi := AD.may_zero (AD.put_zero h).1
  rw [AD.write_of h]
  unfold AD.pending
  simp only
  have key : ∀ n : Nat, ((List.range n).map fun j => (if j = i.toNat then a.pend j ++ [s] else a.pend j).length).sum = ((List.range n).map fun j => (a.pend j).length).sum + if i.toNat < n then 1 else 0 := by
    intro n
    induction n with
    | zero => rfl
    | succ n ih =>
      simp only [List.range_succ, List.map_append, List.sum_append_nat, ih, List.map_cons, List.map_nil, List.sum_cons, List.sum_nil]
      by_cases hn : n = i.toNat
      · subst hn; simp; omega
      · simp only [hn, if_false]
        split <;> split <;> omega
  rw [key, if_pos (by omega)]
theorem pending_none {a : AD} (h : ∀ i, a.pend i = []) : a.pending = 0 := by
  unfold AD.pending
  simp only [h]
  have : ∀ l : List Nat, (l.map fun _ => ([] : List ByteArray).length).sum = 0 := by
    intro l; induction l with
    | nil => rfl
    | cons x l ih => simp only [List.map_cons, List.sum_cons, ih]; rfl
  exact this _
theorem shown_spec (w : World) : Ret Try.prog 12 #[] w (.bool true) := by
  refine ret_of (revetmentlaw04_shown_calls ?_)
  unfold revetmentlaw04_shown
  have h0 : (AD.new 3).On 3 := AD.On.new 3
  have hs := fullB_size (ByteArray.mk #[97])
  have hp := h0.put (i := 1) (by omega) hs
  refine new_u (n := 3) (T.nil w) (by omega) fun p w1 h1 => ⟨_, rfl, no rfl ?_⟩
  refine full_u h1 (size_lit [97] (by decide)) fun w2 h2 => ⟨_, rfl, write_u h2 (few_new _ _) hp fun w3 h3 => ⟨_, rfl, no rfl ?_⟩⟩
  have h4 := h0.write 1 (fullB (ByteArray.mk #[97]))
  have hr : ((AD.new 3).write 1 (fullB (ByteArray.mk #[97]))).read 1 = (fullB (ByteArray.mk #[97]), 0) := by
    rw [AD.read_of (h4.may (by omega)), AD.write_top hp, AD.write_of hp]; rfl
  refine read_u h3 ((few_new 3 0).write _ _ |>.mono (by decide)) hr fun w4 h4 => ⟨_, _, rfl, full_u h4 (size_lit [97] (by decide)) fun w5 h5 => ⟨_, rfl, yes (same_str _) (yes rfl ?_)⟩⟩
  refine pending_u h5 ((few_new 3 0).write _ _ |>.mono (by decide)) (n := 1) (by rw [pending_write hp, pend_new]) fun w6 h6 => ⟨_, rfl, rfl, h6.ext⟩
theorem shown_u {F : List Nat} {w0 w : World} {X : List A} {Φ : Ending → World → Prop} (hT : T F w0 w X) (hk : ∀ w', T F w0 w' X → Φ (.returned (.bool true)) w') : Calls Try.prog 12 #[] w Φ :=
  (shown_spec w).mono fun e w' ⟨he, hx⟩ => by rw [he]; exact hk w' (hT.quiet hx)
theorem Dr.under {p : Nat} {a : AD} {F : List Nat} {w0 w : World} {X : List A} (h : Dr p a F w0 w X) : T F w0 w X := by
  obtain ⟨D, _, _, hT⟩ := h
  exact T.dropAll (hT.swap List.perm_append_comm)
end Go.Proofs.Ytdppllkjibfjcaa
