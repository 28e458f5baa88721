import Derived.Test.YtdppllkjibfjcaaAb2
/-! A drive as the calls show it: the calls, on. -/
namespace Go.Proofs.Ytdppllkjibfjcaa
open Go.Sh Go.Maps
set_option linter.unusedVariables false
set_option maxHeartbeats 1000000
set_option maxRecDepth 20000
theorem Abs.keys {D : DL} {a : AD} (h : Abs D a) : keysW D.ws = ((List.range a.safe.length).filter fun i => !(a.pend i).isEmpty).map Int.ofNat := by
  have tr : ∀ a b c : Int, leI a b = true → leI b c = true → leI a c = true := fun a b c h1 h2 => by simp only [leI, decide_eq_true_eq] at *; exact Int.le_trans h1 h2
  have to : ∀ a b : Int, (leI a b || leI b a) = true := fun a b => by simp only [leI, Bool.or_eq_true, decide_eq_true_eq]; exact Int.le_total a b
  have hlt : (((List.range a.safe.length).filter fun i => !(a.pend i).isEmpty).map Int.ofNat).Pairwise (fun x y => x < y) := by
    refine List.pairwise_map.2 ((List.pairwise_lt_range.filter _).imp fun h => ?_)
    exact Int.ofNat_lt.2 h
  refine List.Perm.eq_of_pairwise (le := fun a b => leI a b = true) (fun a b _ _ h1 h2 => ?_) (List.pairwise_mergeSort tr to _) (hlt.imp fun h => by simp only [leI, decide_eq_true_eq]; omega) ?_
  · simp only [leI, decide_eq_true_eq] at h1 h2
    exact Int.le_antisymm h1 h2
  · refine (List.mergeSort_perm _ _).trans ((List.perm_ext_iff_of_nodup h.ok.wn (hlt.imp fun h => by omega)).2 fun i => ?_)
    simp only [List.mem_map, List.mem_filter, List.mem_range]
    constructor
    · rintro ⟨e, he, rfl⟩
      have h1 := h.ok.wk e he
      have h2 := h.pend e.k.toNat
      rw [show ((e.k.toNat : Nat) : Int) = e.k by omega] at h2
      unfold pendW at h2
      rw [find_of_mem h.ok.wn he] at h2
      refine ⟨e.k.toNat, ⟨by rw [← h.safe]; omega, ?_⟩, by show ((e.k.toNat : Nat) : Int) = e.k; omega⟩
      rw [← h2]
      simpa using h1.2.2
    · rintro ⟨j, ⟨hj, hp⟩, rfl⟩
      have h2 := h.pend j
      unfold pendW at h2
      cases hf : D.ws.find? (fun e => e.k == (j : Int)) with
      | none => rw [hf] at h2; rw [← h2] at hp; simp at hp
      | some e => exact ⟨e, List.mem_of_find?_eq_some hf, by have := List.find?_some hf; simpa using this⟩
def settleL (g : Nat → Nat → Nat) (pend : Nat → List ByteArray) : List Nat → Nat → List ByteArray → List ByteArray
  | [], _, s => s
  | i :: ks, k, s => settleL g pend ks (k + 1) (if 0 < g k (pend i).length then s.set i ((pend i).getD (g k (pend i).length - 1) noB) else s)
theorem settleL_snoc (g : Nat → Nat → Nat) (pend : Nat → List ByteArray) (i : Nat) : ∀ (ks : List Nat) (k : Nat) (s : List ByteArray),
    settleL g pend (ks ++ [i]) k s = if 0 < g (k + ks.length) (pend i).length then (settleL g pend ks k s).set i ((pend i).getD (g (k + ks.length) (pend i).length - 1) noB) else settleL g pend ks k s
  | [], k, s => rfl
  | x :: ks, k, s => by
    simp only [List.cons_append, settleL, settleL_snoc g pend i ks, List.length_cons]
    rw [show k + 1 + ks.length = k + (ks.length + 1) by omega]
theorem settleN_L (g : Nat → Nat → Nat) {D : DL} {a : AD} (h : Abs D a) (safe : List ByteArray) : ∀ j, settleN g D.ws safe j = settleL g a.pend (((List.range a.safe.length).filter fun i => !(a.pend i).isEmpty).take j) 0 safe
  | 0 => rfl
  | j + 1 => by
    unfold settleN
    rw [h.keys, settleN_L g h safe j, List.take_add_one, List.getElem?_map]
    cases hi : ((List.range a.safe.length).filter fun i => !(a.pend i).isEmpty)[j]? with
    | none => simp
    | some i =>
      simp only [Option.map_some, Option.toList_some, settleL_snoc]
      have hl : (((List.range a.safe.length).filter fun i => !(a.pend i).isEmpty).take j).length = j := by
        rw [List.length_take]; have := (List.getElem?_eq_some_iff.1 hi).1; omega
      rw [hl, Nat.zero_add]
      have hp := h.pend i
      show (if 0 < g j (pendW D.ws ((i : Nat) : Int)).length then _ else _) = _
      rw [show Int.ofNat i = ((i : Nat) : Int) from rfl, hp]
      rfl
theorem settleL_kept (g : Nat → Nat → Nat) (pend : Nat → List ByteArray) : ∀ (l pre : List ByteArray) (i0 k : Nat), pre.length = i0 → settleL g pend ((List.range' i0 l.length).filter fun i => !(pend i).isEmpty) k (pre ++ l) = pre ++ keptFrom g pend i0 k l
  | [], pre, i0, k, h => by simp [settleL, keptFrom]
  | s :: l, pre, i0, k, h => by
    simp only [List.length_cons, List.range'_succ, List.filter_cons, keptFrom]
    by_cases hp : pend i0 = []
    · have h1 := settleL_kept g pend l (pre ++ [s]) (i0 + 1) k (by simp [h])
      simp only [List.append_assoc, List.singleton_append] at h1
      simp only [hp, List.isEmpty_nil, Bool.not_true, Bool.false_eq_true, if_false, if_true]
      exact h1
    · have hne : (!(pend i0).isEmpty) = true := by simpa using hp
      simp only [hne, if_true, hp, if_false, settleL]
      by_cases hg : 0 < g k (pend i0).length
      · have h1 := settleL_kept g pend l (pre ++ [(pend i0).getD (g k (pend i0).length - 1) noB]) (i0 + 1) (k + 1) (by simp [h])
        simp only [List.append_assoc, List.singleton_append] at h1
        simp only [hg, if_true]
        rw [List.set_append_right _ _ (by omega), h, Nat.sub_self, List.set_cons_zero]
        exact h1
      · have h1 := settleL_kept g pend l (pre ++ [s]) (i0 + 1) (k + 1) (by simp [h])
        simp only [List.append_assoc, List.singleton_append] at h1
        simp only [hg, if_false]
        exact h1
theorem Abs.settled {D : DL} {a : AD} (h : Abs D a) {g : Nat → Nat → Nat} (hg : ∀ j m, g j m ≤ m) : Abs (Go.Proofs.Ytdppllkjibfjcaa.settled g D) (a.settle g) := by
  have h1 : settleN g D.ws D.safe D.ws.length = keptFrom g a.pend 0 0 a.safe := by
    rw [settleN_L g h, List.take_of_length_le]
    · have := settleL_kept g a.pend a.safe [] 0 0 rfl
      rw [List.range_eq_range', h.safe]
      simpa using this
    · have := keysW_len D.ws
      rw [h.keys, List.length_map] at this
      omega
  refine ⟨⟨settleN_64 g D.ws D.safe h.ok.s64 h.ok.w64 hg _, (by show 1 ≤ (settleN g D.ws D.safe D.ws.length).length ∧ (settleN g D.ws D.safe D.ws.length).length ≤ 4096; rw [settleN_len]; exact h.ok.n1), fun e he => (by cases he), fun e he => (by cases he), List.nodup_nil, h.ok.sv, h.ok.sn, fun e he => (by cases he), List.nodup_nil⟩, h1, fun i => rfl, h.sp, h.dead, h.power⟩
theorem flush_a {p : Nat} {a : AD} {F : List Nat} {w0 w : World} {X : List A} (h : Dr p a F w0 w X) (hF : a.Few 1000000) :
    Calls Try.prog 16 #[.pointer (some ⟨p, 0, none⟩)] w fun e w' => e = .returned (.int .i64 a.flush1) ∧ Dr p a.flush F w0 w' X := by
  obtain ⟨D, rfl, hA, hT⟩ := h
  have hz : flushG D = a.flush1 := by unfold flushG AD.flush1; rw [hA.dead, hA.off]
  refine (flush_spec D hT hA.ok (hF.row hA)).mono fun e w' ⟨v, he, hv, h0, h1⟩ => ⟨by rw [he, hv, hz], ?_⟩
  by_cases hf : flushG D = 0
  · refine ⟨flushed D, rfl, ?_, h0 hf⟩
    have ho : a.off = false := by
      rw [hz] at hf
      unfold AD.flush1 at hf
      split at hf
      · cases hf
      split at hf
      · cases hf
      · rename_i h; simpa using h
    have h2 : Abs { D with left := IntKind.i64.wrap (D.left - 1) } { a with power := a.power.map (· - 1) } := ⟨hA.ok.left _ _, hA.safe, hA.pend, hA.sp, hA.dead, abs_left hA ho⟩
    have h3 := h2.settled (g := fun _ m => m) (fun _ _ => Nat.le_refl _)
    unfold AD.flush
    rw [if_neg (by rw [← hz]; simpa using hf)]
    exact h3
  · refine ⟨D, rfl, ?_, h1 hf⟩
    unfold AD.flush
    rw [if_pos (by rw [← hz]; exact hf)]
    exact hA
theorem crash_a {p : Nat} {a : AD} {F : List Nat} {w0 w : World} {X : List A} (h : Dr p a F w0 w X) (hF : a.Few 1000000) (keep : List UInt8) (q : Option Addr) (c : Nat) (hkl : keep.length ≤ 1000000)
    (hk : ∀ w1, T F w0 w1 X → bytesAt w1 q keep) :
    Calls Try.prog 17 #[.pointer (some ⟨p, 0, none⟩), .slice q keep.length c] w fun e w' => e = .returned (.tuple #[]) ∧ Dr p (a.crash keep) F w0 w' X := by
  obtain ⟨D, rfl, hA, hT⟩ := h
  refine (crash_spec D keep q c hT hA.ok (hF.row hA) hkl hk).mono fun e w' ⟨v, he, hv, h0⟩ => ⟨by rw [he, hv], ?_⟩
  have h2 : Abs { D with cut := false } { a with power := none } := ⟨hA.ok.left D.left false, hA.safe, hA.pend, hA.sp, hA.dead, rfl⟩
  exact ⟨crashed D keep, rfl, h2.settled (keepG_le keep), h0⟩
theorem die_a {p : Nat} {a : AD} {F : List Nat} {w0 w : World} {X : List A} (h : Dr p a F w0 w X) :
    Calls Try.prog 28 #[.pointer (some ⟨p, 0, none⟩)] w fun e w' => e = .returned (.tuple #[]) ∧ Dr p a.die F w0 w' X := by
  obtain ⟨D, rfl, hA, hT⟩ := h
  refine (die_spec D hT).mono fun e w' ⟨v, he, hv, h0⟩ => ⟨by rw [he, hv], { D with dead := true }, ?_, ?_, h0⟩
  · rfl
  · exact ⟨⟨hA.ok.s64, hA.ok.n1, hA.ok.w64, hA.ok.wk, hA.ok.wn, hA.ok.sv, hA.ok.sn, hA.ok.wb, hA.ok.wd⟩, hA.safe, hA.pend, hA.sp, rfl, hA.power⟩
theorem off_a {p : Nat} {a : AD} {F : List Nat} {w0 w : World} {X : List A} (h : Dr p a F w0 w X) (n : Int) (hn : n ≤ 9223372036854775807) :
    Calls Try.prog 20 #[.pointer (some ⟨p, 0, none⟩), .int .i64 n] w fun e w' => e = .returned (.tuple #[]) ∧ Dr p (a.setOff n) F w0 w' X := by
  obtain ⟨D, rfl, hA, hT⟩ := h
  refine (off2_spec D n hT).mono fun e w' ⟨v, he, hv, h0⟩ => ⟨by rw [he, hv], { D with cut := true, left := if 0 > n then 0 else n }, ?_, ?_, h0⟩
  · rfl
  · refine ⟨⟨hA.ok.s64, hA.ok.n1, hA.ok.w64, hA.ok.wk, hA.ok.wn, hA.ok.sv, hA.ok.sn, hA.ok.wb, hA.ok.wd⟩, hA.safe, hA.pend, hA.sp, hA.dead, ?_⟩
    simp only [AD.setOff]
    refine ⟨trivial, ?_, by omega⟩
    split <;> omega
theorem spoil_a {p : Nat} {a : AD} {F : List Nat} {w0 w : World} {X : List A} (h : Dr p a F w0 w X) (i : Int) :
    Calls Try.prog 21 #[.pointer (some ⟨p, 0, none⟩), .int .i64 i] w fun e w' => e = .returned (.int .i64 (a.may i)) ∧ Dr p (a.spoil i) F w0 w' X := by
  obtain ⟨D, rfl, hA, hT⟩ := h
  refine (spoil_spec D i hT).mono fun e w' ⟨v, he, hv, h0, h1⟩ => ⟨by rw [he, hv, hA.may], ?_⟩
  by_cases hm : mayG D i = 0
  · refine ⟨{ D with sp := putK i (.bool true) D.sp D.clk2, clk2 := clockK i D.sp D.clk2 }, rfl, ?_, h0 hm⟩
    obtain ⟨hv', hn'⟩ := putK_ok (i := i) (c := D.clk2) hA.ok.sv hA.ok.sn
    have hi := AD.may_zero (by rw [← hA.may]; exact hm)
    have ha : a.spoil i = { a with spoilt := fun j => if j = i.toNat then true else a.spoilt j } := by unfold AD.spoil; rw [if_neg (by rw [← hA.may]; simpa using hm)]
    rw [ha]
    refine ⟨⟨hA.ok.s64, hA.ok.n1, hA.ok.w64, hA.ok.wk, hA.ok.wn, hv', hn', hA.ok.wb, hA.ok.wd⟩, hA.safe, hA.pend, fun j => ?_, hA.dead, hA.power⟩
    show (getK j (putK i (.bool true) D.sp D.clk2)).isSome = _
    rw [getK_putK]
    by_cases hj : j = i.toNat
    · rw [if_pos (by omega)]; simp [hj]
    · rw [if_neg (by omega), hA.sp]; simp [hj]
  · refine ⟨D, rfl, ?_, h1 hm⟩
    unfold AD.spoil
    rw [if_pos (by rw [← hA.may]; exact hm)]
    exact hA
theorem pend_er {i : Int} {ws ws' : List WE} (hn : (ws.map (·.k)).Nodup) (h : Er i ws ws') (j : Int) : pendW ws' j = if j = i then [] else pendW ws j := by
  cases h with
  | none h =>
    by_cases hj : j = i
    · subst hj; rw [if_pos rfl]; unfold pendW; rw [h]
    · rw [if_neg hj]
  | @some a b e he ha =>
    induction a with
    | nil =>
      simp only [List.nil_append, List.map_cons, List.nodup_cons] at hn ⊢
      rw [pend_cons]
      by_cases hj : j = i
      · subst hj
        rw [if_pos rfl]
        unfold pendW
        rw [List.find?_eq_none.2 fun x hx => ?_]
        simp only [beq_iff_eq]
        exact fun hk => hn.1 (by rw [he, ← hk]; exact List.mem_map_of_mem hx)
      · rw [if_neg hj, if_neg (fun h => hj (h.symm.trans he))]
    | cons x a ih =>
      have hx : ¬ x.k = i := ha x List.mem_cons_self
      simp only [List.cons_append, List.map_cons, List.nodup_cons] at hn
      rw [List.cons_append, List.cons_append, pend_cons, pend_cons, ih (fun y hy => ha y (List.mem_cons_of_mem _ hy)) hn.2]
      by_cases hj : j = i
      · subst hj; simp [hx]
      · simp [hj]
theorem er_sub {i : Int} {ws ws' : List WE} (h : Er i ws ws') : ws'.Sublist ws := by
  cases h with
  | none _ => exact .refl _
  | some _ _ => exact List.Sublist.append (.refl _) (.cons _ (.refl _))
theorem change_a {p : Nat} {a : AD} {F : List Nat} {w0 w : World} {X : List A} (h : Dr p a F w0 w X) (i : Int) (s : ByteArray) :
    Calls Try.prog 30 #[.pointer (some ⟨p, 0, none⟩), .int .i64 i, .string s] w fun e w' => e = .returned (.int .i64 (a.put i s)) ∧ Dr p (a.change i s) F w0 w' X := by
  obtain ⟨D, rfl, hA, hT⟩ := h
  refine (change_spec D i s hT hA.ok).mono fun e w' ⟨v, he, hv, D', h1, h2, hT'⟩ => ⟨by rw [he, hv, hA.put], ?_⟩
  by_cases hz : putG D i s = 0
  · have hc := h1 hz
    refine ⟨D', hc.same.1, ?_, hT'⟩
    obtain ⟨hm, hs⟩ := AD.put_zero (by rw [← hA.put]; exact hz)
    have hi := AD.may_zero hm
    have ha : a.change i s = { a with safe := a.safe.set i.toNat s, pend := fun j => if j = i.toNat then [] else a.pend j } := by unfold AD.change; rw [if_neg (by rw [← hA.put]; simpa using hz)]
    obtain ⟨e1, e2, e3, e4, e5, e6, e7, e8⟩ := hc.same
    have hsub := er_sub hc.ws
    rw [ha]
    have hlen : D'.safe.length = D.safe.length := by rw [hc.safe, List.length_set]
    refine ⟨⟨fun x hx => ?_, by rw [hlen]; exact hA.ok.n1, fun e he => hA.ok.w64 e (hsub.subset he), fun e he => by rw [hlen]; exact hA.ok.wk e (hsub.subset he), hA.ok.wn.sublist (hsub.map _), by rw [e8]; exact hA.ok.sv, by rw [e8]; exact hA.ok.sn, fun e he => by rw [hc.clk]; exact hA.ok.wb e (hsub.subset he), hA.ok.wd.sublist (hsub.map _)⟩,
      by rw [hc.safe, hA.safe], fun j => ?_, fun j => by rw [e8]; exact hA.sp j, by rw [e5]; exact hA.dead, by rw [e6, e7]; exact hA.power⟩
    · rw [hc.safe] at hx
      rcases List.mem_or_eq_of_mem_set hx with h | rfl
      · exact hA.ok.s64 x h
      · exact hs
    · rw [pend_er hA.ok.wn hc.ws]
      by_cases hj : j = i.toNat
      · rw [if_pos (by omega)]; simp [hj]
      · rw [if_neg (by omega), hA.pend]; simp [hj]
  · rw [h2 hz] at hT'
    refine ⟨D, rfl, ?_, hT'⟩
    unfold AD.change
    rw [if_pos (by rw [← hA.put]; exact hz)]
    exact hA
theorem new_a (n : Int) {F : List Nat} {w0 w : World} {X : List A} (hT : T F w0 w X) (hn : 1 ≤ n ∧ n ≤ 4096) :
    Calls Try.prog 13 #[.int .i64 n] w fun e w' => ∃ p, e = .returned (.pointer (some ⟨p, 0, none⟩)) ∧ Dr p (AD.new n.toNat) F w0 w' X := by
  refine (new_spec n hT hn).mono fun e w' ⟨v, he, D, hv, hN, hT'⟩ => ⟨D.p, by rw [he, hv], D, rfl, ?_, hT'⟩
  obtain ⟨h1, h2, h3, h4, h5, h6⟩ := hN
  refine ⟨⟨fun s hs => ?_, (by rw [h1, List.length_replicate]; omega), (by rw [h2]; exact fun e he => (by cases he)), (by rw [h2]; exact fun e he => (by cases he)), (by rw [h2]; exact List.nodup_nil), (by rw [h3]; exact fun e he => (by cases he)), (by rw [h3]; exact List.nodup_nil), (by rw [h2]; exact fun e he => (by cases he)), (by rw [h2]; exact List.nodup_nil)⟩, h1, fun i => (by rw [h2]; rfl), fun i => (by rw [h3]; rfl), h4, h6⟩
  rw [h1] at hs
  rw [List.eq_of_mem_replicate hs]; rfl
theorem pending_a {p : Nat} {a : AD} {F : List Nat} {w0 w : World} {X : List A} (h : Dr p a F w0 w X) (hF : a.Few 1000000) :
    Ret Try.prog 19 #[.pointer (some ⟨p, 0, none⟩)] w (.int .i64 a.pending) := by
  obtain ⟨D, rfl, hA, hT⟩ := h
  have h1 := pending_spec D w (T.sub hT) hA.ok (hF.row hA)
  have h2 : pendingG D.ws = a.pending := by
    have e1 : pendingG D.ws = ((keysW D.ws).map fun k => (pendW D.ws k).length).sum := by
      have hp : ((keysW D.ws).map fun k => (pendW D.ws k).length).Perm ((D.ws.map (·.k)).map fun k => (pendW D.ws k).length) := (List.mergeSort_perm _ _).map _
      rw [hp.sum_nat, List.map_map]
      unfold pendingG
      congr 1
      refine List.map_congr_left fun e he => ?_
      show e.l.length = (pendW D.ws e.k).length
      unfold pendW
      rw [find_of_mem hA.ok.wn he]
    rw [e1, hA.keys, List.map_map]
    unfold AD.pending
    have key : ∀ l : List Nat, ((l.filter fun i => !(a.pend i).isEmpty).map ((fun k => (pendW D.ws k).length) ∘ Int.ofNat)).sum = (l.map fun i => (a.pend i).length).sum := by
      intro l
      induction l with
      | nil => rfl
      | cons x l ih =>
        have hx := hA.pend x
        rw [List.filter_cons]
        split
        · rename_i hne
          simp only [List.map_cons, List.sum_cons, ih, Function.comp]
          rw [show Int.ofNat x = ((x : Nat) : Int) from rfl, hx]
        · rename_i hne
          have : a.pend x = [] := by simpa using hne
          simp only [List.map_cons, List.sum_cons, ih, this, List.length_nil, Nat.zero_add]
    exact key _
  rwa [h2] at h1
end Go.Proofs.Ytdppllkjibfjcaa
