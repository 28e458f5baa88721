import Derived.Test.YtdppllkjibfjcaaAb1
/-! A drive as the calls show it: its calls. -/
namespace Go.Proofs.Ytdppllkjibfjcaa
open Go.Sh Go.Maps
set_option linter.unusedVariables false
set_option maxHeartbeats 1000000
set_option maxRecDepth 20000
theorem getK_none_of {i : Int} : ∀ {l : List Ent}, (∀ x ∈ l, x.1 ≠ i) → getK i l = none
  | [], _ => rfl
  | x :: l, h => by
    simp only [getK, if_neg (h x List.mem_cons_self)]
    exact getK_none_of fun y hy => h y (List.mem_cons_of_mem _ hy)
theorem getK_eraseK {i j : Int} : ∀ {l : List Ent}, (l.map (·.1)).Nodup → getK j (eraseK i l) = if j = i then none else getK j l
  | [], _ => by simp [eraseK, getK]
  | x :: l, h => by
    simp only [List.map_cons, List.nodup_cons] at h
    by_cases hx : x.1 = i
    · simp only [eraseK, if_pos hx, getK]
      by_cases hj : j = i
      · subst hj
        rw [if_pos rfl]
        exact getK_none_of fun y hy e => h.1 (by rw [hx, ← e]; exact List.mem_map_of_mem hy)
      · rw [if_neg hj, if_neg (fun e => hj (e.symm.trans hx))]
    · simp only [eraseK, if_neg hx, getK]
      by_cases hxj : x.1 = j
      · rw [if_pos hxj, if_neg (fun e => hx (hxj.trans e)), if_pos hxj]
      · rw [if_neg hxj, if_neg hxj]
        exact getK_eraseK h.2
theorem getK_append {j : Int} : ∀ {l : List Ent} {x : Ent}, getK j (l ++ [x]) = match getK j l with | some v => some v | none => if x.1 = j then some x.2.1 else none
  | [], x => by simp [getK]
  | y :: l, x => by
    simp only [List.cons_append, getK]
    split
    · rfl
    · exact getK_append
theorem getK_setK {i j : Int} {v : Value} : ∀ {l : List Ent}, (getK i l).isSome = true → getK j (setK i v l) = if j = i then some v else getK j l
  | [], h => by simp [getK] at h
  | x :: l, h => by
    by_cases hx : x.1 = i
    · simp only [setK, if_pos hx, getK]
      by_cases hj : j = i
      · subst hj; simp
      · rw [if_neg (fun e => hj e.symm), if_neg hj, if_neg (fun e => hj (e.symm.trans hx))]
    · simp only [setK, if_neg hx, getK]
      simp only [getK, if_neg hx] at h
      by_cases hxj : x.1 = j
      · rw [if_pos hxj, if_pos hxj, if_neg (fun e => hx (hxj.trans e))]
      · rw [if_neg hxj, if_neg hxj]; exact getK_setK h
theorem getK_putK {i j : Int} {v : Value} {l : List Ent} {c : Nat} : getK j (putK i v l c) = if j = i then some v else getK j l := by
  unfold putK
  split
  · rename_i h; exact getK_setK h
  · rename_i h
    rw [getK_append]
    have hn : getK i l = none := by cases hg : getK i l <;> simp_all
    by_cases hj : j = i
    · subst hj; simp [hn]
    · rw [if_neg hj, if_neg (fun e => hj e.symm)]
      cases getK j l <;> rfl
theorem mem_eraseK {i : Int} : ∀ {l : List Ent} {x : Ent}, x ∈ eraseK i l → x ∈ l
  | [], _, h => h
  | y :: l, x, h => by
    simp only [eraseK] at h
    split at h
    · exact List.mem_cons_of_mem _ h
    · rcases List.mem_cons.1 h with rfl | h
      · exact List.mem_cons_self
      · exact List.mem_cons_of_mem _ (mem_eraseK h)
theorem nodup_eraseK {i : Int} : ∀ {l : List Ent}, (l.map (·.1)).Nodup → ((eraseK i l).map (·.1)).Nodup
  | [], h => h
  | y :: l, h => by
    simp only [List.map_cons, List.nodup_cons] at h
    simp only [eraseK]
    split
    · exact h.2
    · simp only [List.map_cons, List.nodup_cons]
      refine ⟨fun hm => ?_, nodup_eraseK h.2⟩
      obtain ⟨z, hz, e⟩ := List.mem_map.1 hm
      exact h.1 (e ▸ List.mem_map_of_mem (mem_eraseK hz))
theorem keys_setK {i : Int} {v : Value} : ∀ {l : List Ent}, (setK i v l).map (·.1) = l.map (·.1)
  | [] => rfl
  | x :: l => by
    simp only [setK]
    split
    · rename_i h; simp [h]
    · simp [keys_setK]
theorem val_setK {i : Int} {v : Value} : ∀ {l : List Ent} {x : Ent}, x ∈ setK i v l → x ∈ l ∨ x.2.1 = v
  | [], _, h => .inl h
  | y :: l, x, h => by
    simp only [setK] at h
    split at h
    · rcases List.mem_cons.1 h with rfl | h
      · exact .inr rfl
      · exact .inl (List.mem_cons_of_mem _ h)
    · rcases List.mem_cons.1 h with rfl | h
      · exact .inl List.mem_cons_self
      · exact (val_setK h).imp (List.mem_cons_of_mem _) id
theorem putK_ok {i : Int} {l : List Ent} {c : Nat} (hv : ∀ x ∈ l, x.2.1 = .bool true) (hn : (l.map (·.1)).Nodup) : (∀ x ∈ putK i (.bool true) l c, x.2.1 = .bool true) ∧ ((putK i (.bool true) l c).map (·.1)).Nodup := by
  unfold putK
  split
  · exact ⟨fun x hx => (val_setK hx).elim (hv x) id, by rw [keys_setK]; exact hn⟩
  · rename_i h
    refine ⟨fun x hx => ?_, ?_⟩
    · rcases List.mem_append.1 hx with hx | hx
      · exact hv x hx
      · obtain rfl := List.mem_singleton.1 hx; rfl
    · rw [List.map_append, List.nodup_append]
      refine ⟨hn, by simp, fun a ha b hb e => ?_⟩
      obtain rfl : b = i := by simpa using hb
      subst e
      have : ∀ {l : List Ent} {k : Int}, k ∈ l.map (·.1) → (getK k l).isSome = true := by
        intro l k
        induction l with
        | nil => intro h; cases h
        | cons x l ih =>
          intro h
          simp only [getK]
          split
          · rfl
          · rename_i hx
            rcases List.mem_cons.1 (show k ∈ x.1 :: l.map (·.1) from h) with e | h
            · exact absurd e.symm hx
            · exact ih h
      exact h (this ha)
theorem wr_ok {D : DL} (h : DOk D) {i : Int} {s : ByteArray} {ws' : List WE} (hi : 0 ≤ i ∧ i < (D.safe.length : Int)) (hs : s.size = 64) (hw : Wr i s D.clk D.ws ws') :
    (∀ e ∈ ws', ∀ s ∈ e.l, s.size = 64) ∧ (∀ e ∈ ws', 0 ≤ e.k ∧ e.k < (D.safe.length : Int) ∧ e.l ≠ []) ∧ (ws'.map (·.k)).Nodup ∧ (∀ e ∈ ws', e.born < clockK i (D.ws.map WE.ent) D.clk) ∧ (ws'.map (·.born)).Nodup := by
  have hwb := h.wb
  have hwd := h.wd
  have hwn := h.wn
  have hwk := h.wk
  have hw64 := h.w64
  generalize hws : D.ws = ws at *
  generalize D.clk = clk at *
  cases hw with
  | new g cap hf =>
    have hg : getK i (ws.map WE.ent) = none := by rw [getK_ws]; rw [hf]; rfl
    have hni : ∀ e ∈ ws, e.k ≠ i := fun e he hk => by
      have := List.find?_eq_none.1 hf e he
      simp [hk] at this
    have hc : clockK i (ws.map WE.ent) clk = clk + 1 := by simp [clockK, hg]
    rw [hc]
    refine ⟨fun e he => ?_, fun e he => ?_, ?_, fun e he => ?_, ?_⟩
    · rcases List.mem_append.1 he with he | he
      · exact hw64 e he
      · obtain rfl := List.mem_singleton.1 he
        intro x hx
        obtain rfl : x = s := by simpa using hx
        exact hs
    · rcases List.mem_append.1 he with he | he
      · exact hwk e he
      · obtain rfl := List.mem_singleton.1 he
        exact ⟨hi.1, hi.2, by simp⟩
    · rw [List.map_append, List.nodup_append]
      refine ⟨hwn, by simp, fun a ha b hb e => ?_⟩
      obtain ⟨x, hx, rfl⟩ := List.mem_map.1 ha
      obtain rfl : b = i := by simpa using hb
      exact hni x hx e
    · rcases List.mem_append.1 he with he | he
      · have := hwb e he; omega
      · obtain rfl := List.mem_singleton.1 he
        show clk < clk + 1
        omega
    · rw [List.map_append, List.nodup_append]
      refine ⟨hwd, by simp, fun a ha b hb e => ?_⟩
      obtain ⟨x, hx, rfl⟩ := List.mem_map.1 ha
      obtain rfl : b = clk := by simpa using hb
      have := hwb x hx
      omega
  | @old a b e g cap hk ha =>
    have hmem : e ∈ a ++ e :: b := by simp
    have hge : (getK i ((a ++ e :: b).map WE.ent)).isSome = true := by
      rw [getK_ws, Option.isSome_map, List.find?_isSome]
      exact ⟨e, hmem, by simpa using hk⟩
    have hc : clockK i ((a ++ e :: b).map WE.ent) clk = clk := by simp only [clockK, hge, if_true]
    rw [hc]
    have cases' : ∀ x, x ∈ a ++ (⟨i, g, cap, e.born, e.l ++ [s]⟩ : WE) :: b → x ∈ a ++ e :: b ∨ x = ⟨i, g, cap, e.born, e.l ++ [s]⟩ := by
      intro x hx
      rcases List.mem_append.1 hx with hx | hx
      · exact .inl (List.mem_append_left _ hx)
      · rcases List.mem_cons.1 hx with rfl | hx
        · exact .inr rfl
        · exact .inl (List.mem_append_right _ (List.mem_cons_of_mem _ hx))
    refine ⟨fun x hx => ?_, fun x hx => ?_, ?_, fun x hx => ?_, ?_⟩
    · rcases cases' x hx with hx | rfl
      · exact hw64 x hx
      · intro y hy
        rcases List.mem_append.1 hy with hy | hy
        · exact hw64 e hmem y hy
        · obtain rfl := List.mem_singleton.1 hy; exact hs
    · rcases cases' x hx with hx | rfl
      · exact hwk x hx
      · exact ⟨hi.1, hi.2, by simp⟩
    · have : (a ++ (⟨i, g, cap, e.born, e.l ++ [s]⟩ : WE) :: b).map (·.k) = (a ++ e :: b).map (·.k) := by simp [hk]
      rw [this]; exact hwn
    · rcases cases' x hx with hx | rfl
      · exact hwb x hx
      · exact hwb e hmem
    · have : (a ++ (⟨i, g, cap, e.born, e.l ++ [s]⟩ : WE) :: b).map (·.born) = (a ++ e :: b).map (·.born) := by simp
      rw [this]; exact hwd
theorem AD.put_zero {a : AD} {i : Int} {s : ByteArray} (h : a.put i s = 0) : a.may i = 0 ∧ s.size = 64 := by
  unfold AD.put at h
  split at h
  · rename_i h1; exact absurd h h1
  · split at h
    · cases h
    · rename_i h1 h2; exact ⟨by simpa using h1, by simpa using h2⟩
theorem AD.may_on {a : AD} {i : Int} (h : a.may i = 0) : a.off = false ∧ a.dead = false := by
  unfold AD.may at h
  split at h
  · cases h
  split at h
  · cases h
  · rename_i h1 h2; exact ⟨by simpa using h2, by simpa using h1⟩
theorem abs_left {D : DL} {a : AD} (h : Abs D a) (ho : a.off = false) : match (a.power.map (fun n : Nat => n - 1) : Option Nat) with
    | none => D.cut = false
    | some n => D.cut = true ∧ IntKind.i64.wrap (D.left - 1) = (n : Int) ∧ n ≤ 9223372036854775807 := by
  have hp := h.power
  cases ha : a.power with
  | none => rw [ha] at hp; exact hp
  | some n =>
    rw [ha] at hp
    have hn : n ≠ 0 := by
      intro e
      subst e
      unfold AD.off at ho
      rw [ha] at ho
      simp at ho
    simp only [Option.map_some] at hp ⊢
    refine ⟨hp.1, ?_, by omega⟩
    rw [hp.2.1, wrap64 _ (by omega) (by omega)]
    omega
theorem Abs.wrote {D D' : DL} {a : AD} (h : Abs D a) {i : Int} {s : ByteArray} (hz : a.put i s = 0) (hw : Wrote D i s D') : Abs D' (a.write i s) := by
  obtain ⟨hm, hs⟩ := AD.put_zero hz
  have hi := AD.may_zero hm
  rw [← h.safe] at hi
  obtain ⟨k1, k2, k3, k4, k5⟩ := wr_ok h.ok hi hs hw.ws
  obtain ⟨e1, e2, e3, e4, e5, e6, e7⟩ := hw.same
  have ha : a.write i s = { a with pend := fun j => if j = i.toNat then a.pend j ++ [s] else a.pend j, spoilt := fun j => if j = i.toNat then false else a.spoilt j, power := a.power.map (· - 1) } := by unfold AD.write; rw [if_neg (by simpa using hz)]
  rw [ha]
  refine ⟨⟨by rw [e5]; exact h.ok.s64, by rw [e5]; exact h.ok.n1, k1, by rw [e5]; exact k2, k3, fun x hx => h.ok.sv x (mem_eraseK (hw.sp ▸ hx)), by rw [hw.sp]; exact nodup_eraseK h.ok.sn, by rw [hw.clk]; exact k4, k5⟩, by rw [e5]; exact h.safe, fun j => ?_, fun j => ?_, by rw [e6]; exact h.dead, ?_⟩
  · rw [wr_pend hw.ws]
    by_cases hj : j = i.toNat
    · have hji : (j : Int) = i := by omega
      have := h.pend j
      rw [hji] at this
      simp only [hj, if_true]
      rw [if_pos (by omega), this, hj]
    · rw [if_neg (by omega), h.pend]
      simp only [hj, if_false]
  · rw [hw.sp, getK_eraseK h.ok.sn]
    by_cases hj : j = i.toNat
    · rw [if_pos (by omega)]; simp [hj]
    · rw [if_neg (by omega), h.sp]; simp [hj]
  · have := abs_left h (AD.may_on hm).1
    rw [e7, hw.left]
    exact this
theorem write_a {p : Nat} {a : AD} {F : List Nat} {w0 w : World} {X : List A} (h : Dr p a F w0 w X) (hF : a.Few 1000000) (i : Int) (s : ByteArray) :
    Calls Try.prog 14 #[.pointer (some ⟨p, 0, none⟩), .int .i64 i, .string s] w fun e w' => e = .returned (.int .i64 (a.put i s)) ∧ Dr p (a.write i s) F w0 w' X := by
  obtain ⟨D, rfl, hA, hT⟩ := h
  refine (write_spec D i s hT hA.ok (hF.row hA)).mono fun e w' ⟨v, he, hv, D', h1, h2, hT'⟩ => ⟨by rw [he, hv, hA.put], ?_⟩
  by_cases hz : putG D i s = 0
  · refine ⟨D', (h1 hz).same.1, hA.wrote (by rw [← hA.put]; exact hz) (h1 hz), hT'⟩
  · rw [h2 hz] at hT'
    refine ⟨D, rfl, ?_, hT'⟩
    unfold AD.write
    rw [if_pos (by rw [← hA.put]; exact hz)]
    exact hA
theorem read_a {p : Nat} {a : AD} {F : List Nat} {w0 w : World} {X : List A} (h : Dr p a F w0 w X) (hF : a.Few 1000000) (i : Int) :
    Ret Try.prog 18 #[.pointer (some ⟨p, 0, none⟩), .int .i64 i] w (.tuple #[.string (a.read i).1, .int .i64 (a.read i).2]) := by
  obtain ⟨D, rfl, hA, hT⟩ := h
  have := read_spec D i w (T.sub hT) hA.ok fun e he => Nat.le_trans (hF.row hA e he) (by decide)
  rwa [hA.read] at this
theorem safe_a {p : Nat} {a : AD} {F : List Nat} {w0 w : World} {X : List A} (h : Dr p a F w0 w X) (i : Int) :
    Ret Try.prog 22 #[.pointer (some ⟨p, 0, none⟩), .int .i64 i] w (.tuple #[.string (a.safeAt i).1, .int .i64 (a.safeAt i).2]) := by
  obtain ⟨D, rfl, hA, hT⟩ := h
  have := safe_spec D i w (T.sub hT) hA.ok
  rwa [hA.safeAt] at this
theorem dead_a {p : Nat} {a : AD} {F : List Nat} {w0 w : World} {X : List A} (h : Dr p a F w0 w X) : Ret Try.prog 31 #[.pointer (some ⟨p, 0, none⟩)] w (.bool a.dead) := by
  obtain ⟨D, rfl, hA, hT⟩ := h
  have := dead_spec D w (T.sub hT)
  rwa [hA.dead] at this
theorem Dr.quiet {p : Nat} {a : AD} {F : List Nat} {w0 w w' : World} {X : List A} (h : Dr p a F w0 w X) (he : Ext w w') : Dr p a F w0 w' X := by
  obtain ⟨D, h1, h2, h3⟩ := h
  exact ⟨D, h1, h2, h3.quiet he⟩
theorem Ret.useD {P : Program} {f : FuncId} {args : Array Value} {p : Nat} {a : AD} {F : List Nat} {w0 w : World} {X : List A} {v : Value} {Φ : Ending → World → Prop} (h : Dr p a F w0 w X) (hr : Ret P f args w v) (hk : ∀ w', Dr p a F w0 w' X → Φ (.returned v) w') : Calls P f args w Φ :=
  hr.mono fun _ w' ⟨he, hx⟩ => he ▸ hk w' (h.quiet hx)
end Go.Proofs.Ytdppllkjibfjcaa
