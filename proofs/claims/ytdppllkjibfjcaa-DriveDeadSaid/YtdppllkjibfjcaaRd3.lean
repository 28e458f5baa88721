import Derived.Test.YtdppllkjibfjcaaRd2
/-! the reference's drive: what turns, on. -/
namespace Go.Proofs.Ytdppllkjibfjcaa
open Go.Sh Go.Maps Go.RowKit
set_option linter.unusedVariables false
set_option maxHeartbeats 1000000
set_option maxRecDepth 20000
theorem setSafe {R : RL} {F : List Nat} {w0 w : World} {X : List A} {i : Nat} {s : ByteArray} {K : World → Prop} (hT : T F w0 w (refL R ++ X)) (hi : i < R.safe.length) (hK : ∀ w', T F w0 w' (refL { R with safe := R.safe.set i s } ++ X) → K w') :
    ∃ b, R.gs = some b ∧ St (Addr.add ⟨b, 0, none⟩ (i * 1)) (.string s) w K := by
  obtain ⟨b, hb⟩ := rowP.pos (hT.says (show rowP 9 1 R.gs R.safe.length R.cs (R.safe.map .string) ∈ _ from (by first | exact List.Mem.head _ | exact List.Mem.tail _ (List.Mem.head _) | exact List.Mem.tail _ (List.Mem.tail _ (List.Mem.head _)) | exact List.Mem.tail _ (List.Mem.tail _ (List.Mem.tail _ (List.Mem.head _))) | exact List.Mem.tail _ (List.Mem.tail _ (List.Mem.tail _ (List.Mem.tail _ (List.Mem.head _)))) | exact List.Mem.tail _ (List.Mem.tail _ (List.Mem.tail _ (List.Mem.tail _ (List.Mem.tail _ (List.Mem.head _))))) | exact List.Mem.tail _ (List.Mem.tail _ (List.Mem.tail _ (List.Mem.tail _ (List.Mem.tail _ (List.Mem.tail _ (List.Mem.head _)))))) | exact List.Mem.tail _ (List.Mem.tail _ (List.Mem.tail _ (List.Mem.tail _ (List.Mem.tail _ (List.Mem.tail _ (List.Mem.tail _ (List.Mem.head _))))))) | exact List.Mem.tail _ (List.Mem.tail _ (List.Mem.tail _ (List.Mem.tail _ (List.Mem.tail _ (List.Mem.tail _ (List.Mem.tail _ (List.Mem.tail _ (List.Mem.head _)))))))) | exact List.Mem.tail _ (List.Mem.tail _ (List.Mem.tail _ (List.Mem.tail _ (List.Mem.tail _ (List.Mem.tail _ (List.Mem.tail _ (List.Mem.tail _ (List.Mem.tail _ (List.Mem.head _))))))))) | exact List.Mem.tail _ (List.Mem.tail _ (List.Mem.tail _ (List.Mem.tail _ (List.Mem.tail _ (List.Mem.tail _ (List.Mem.tail _ (List.Mem.tail _ (List.Mem.tail _ (List.Mem.tail _ (List.Mem.head _)))))))))) | exact List.Mem.tail _ (List.Mem.tail _ (List.Mem.tail _ (List.Mem.tail _ (List.Mem.tail _ (List.Mem.tail _ (List.Mem.tail _ (List.Mem.tail _ (List.Mem.tail _ (List.Mem.tail _ (List.Mem.tail _ (List.Mem.head _)))))))))))))) (by omega)
  refine ⟨b, hb, ?_⟩
  have e0 : refL R = blk R.p #[.slice (ptr R.gs) R.safe.length R.cs, .slice (ptr R.gw) R.ws.length R.cw, .slice (ptr R.gp) R.sp.length R.cp, .bool R.gone, .bool R.cut, .int .i64 R.left] 48 :: rowP 9 1 (some b) R.safe.length R.cs (R.safe.map .string) :: ((hdr R).drop 2 ++ R.ws.map RW.row) := by rw [← hb]; rfl
  rw [e0] at hT
  refine StRow1.t hT (.tail .head) (by rw [List.length_map]; exact hi) rfl fun w' h => hK w' ?_
  have e1 : refL { R with safe := R.safe.set i s } = blk R.p #[.slice (ptr R.gs) R.safe.length R.cs, .slice (ptr R.gw) R.ws.length R.cw, .slice (ptr R.gp) R.sp.length R.cp, .bool R.gone, .bool R.cut, .int .i64 R.left] 48 :: rowP 9 1 (some b) R.safe.length R.cs ((R.safe.map .string).set i (.string s)) :: ((hdr R).drop 2 ++ R.ws.map RW.row) := by
    rw [← hb]; simp only [refL, hdr, List.length_set, List.map_set]; rfl
  rw [e1]
  exact h.swap (.swap _ _ _)
theorem setSp {R : RL} {F : List Nat} {w0 w : World} {X : List A} {i : Nat} {v : Bool} {K : World → Prop} (hT : T F w0 w (refL R ++ X)) (hi : i < R.sp.length) (hK : ∀ w', T F w0 w' (refL { R with sp := R.sp.set i v } ++ X) → K w') :
    ∃ b, R.gp = some b ∧ St (Addr.add ⟨b, 0, none⟩ (i * 1)) (.bool v) w K := by
  obtain ⟨b, hb⟩ := rowP.pos (hT.says (show rowP 4 1 R.gp R.sp.length R.cp (R.sp.map .bool) ∈ _ from (by first | exact List.Mem.head _ | exact List.Mem.tail _ (List.Mem.head _) | exact List.Mem.tail _ (List.Mem.tail _ (List.Mem.head _)) | exact List.Mem.tail _ (List.Mem.tail _ (List.Mem.tail _ (List.Mem.head _))) | exact List.Mem.tail _ (List.Mem.tail _ (List.Mem.tail _ (List.Mem.tail _ (List.Mem.head _)))) | exact List.Mem.tail _ (List.Mem.tail _ (List.Mem.tail _ (List.Mem.tail _ (List.Mem.tail _ (List.Mem.head _))))) | exact List.Mem.tail _ (List.Mem.tail _ (List.Mem.tail _ (List.Mem.tail _ (List.Mem.tail _ (List.Mem.tail _ (List.Mem.head _)))))) | exact List.Mem.tail _ (List.Mem.tail _ (List.Mem.tail _ (List.Mem.tail _ (List.Mem.tail _ (List.Mem.tail _ (List.Mem.tail _ (List.Mem.head _))))))) | exact List.Mem.tail _ (List.Mem.tail _ (List.Mem.tail _ (List.Mem.tail _ (List.Mem.tail _ (List.Mem.tail _ (List.Mem.tail _ (List.Mem.tail _ (List.Mem.head _)))))))) | exact List.Mem.tail _ (List.Mem.tail _ (List.Mem.tail _ (List.Mem.tail _ (List.Mem.tail _ (List.Mem.tail _ (List.Mem.tail _ (List.Mem.tail _ (List.Mem.tail _ (List.Mem.head _))))))))) | exact List.Mem.tail _ (List.Mem.tail _ (List.Mem.tail _ (List.Mem.tail _ (List.Mem.tail _ (List.Mem.tail _ (List.Mem.tail _ (List.Mem.tail _ (List.Mem.tail _ (List.Mem.tail _ (List.Mem.head _)))))))))) | exact List.Mem.tail _ (List.Mem.tail _ (List.Mem.tail _ (List.Mem.tail _ (List.Mem.tail _ (List.Mem.tail _ (List.Mem.tail _ (List.Mem.tail _ (List.Mem.tail _ (List.Mem.tail _ (List.Mem.tail _ (List.Mem.head _)))))))))))))) (by omega)
  refine ⟨b, hb, ?_⟩
  have e0 : refL R = (hdr R).take 3 ++ rowP 4 1 (some b) R.sp.length R.cp (R.sp.map .bool) :: R.ws.map RW.row := by rw [← hb]; rfl
  rw [e0] at hT
  refine StRow1.t hT (.tail (.tail (.tail .head))) (by rw [List.length_map]; exact hi) rfl fun w' h => hK w' ?_
  have e1 : refL { R with sp := R.sp.set i v } = (hdr R).take 3 ++ rowP 4 1 (some b) R.sp.length R.cp ((R.sp.map .bool).set i (.bool v)) :: R.ws.map RW.row := by
    rw [← hb]; simp only [refL, hdr, List.length_set, List.map_set]; rfl
  rw [e1]
  refine h.swap ?_
  rw [List.append_assoc]
  exact (List.perm_middle (l₁ := (hdr R).take 3)).symm
theorem setNil {R : RL} {F : List Nat} {w0 w : World} {X : List A} {i : Nat} {K : World → Prop} (hT : T F w0 w (refL R ++ X)) (hi : i < R.ws.length) (hK : ∀ w', T F w0 w' (refL { R with ws := R.ws.set i ⟨none, 0, []⟩ } ++ X) → K w') :
    ∃ b, R.gw = some b ∧ St (Addr.add ⟨b, 0, none⟩ (i * 1)) (.slice none 0 0) w K := by
  obtain ⟨b, hb⟩ := rowP.pos (hT.says (show rowP 22 1 R.gw R.ws.length R.cw (R.ws.map RW.val) ∈ _ from (by first | exact List.Mem.head _ | exact List.Mem.tail _ (List.Mem.head _) | exact List.Mem.tail _ (List.Mem.tail _ (List.Mem.head _)) | exact List.Mem.tail _ (List.Mem.tail _ (List.Mem.tail _ (List.Mem.head _))) | exact List.Mem.tail _ (List.Mem.tail _ (List.Mem.tail _ (List.Mem.tail _ (List.Mem.head _)))) | exact List.Mem.tail _ (List.Mem.tail _ (List.Mem.tail _ (List.Mem.tail _ (List.Mem.tail _ (List.Mem.head _))))) | exact List.Mem.tail _ (List.Mem.tail _ (List.Mem.tail _ (List.Mem.tail _ (List.Mem.tail _ (List.Mem.tail _ (List.Mem.head _)))))) | exact List.Mem.tail _ (List.Mem.tail _ (List.Mem.tail _ (List.Mem.tail _ (List.Mem.tail _ (List.Mem.tail _ (List.Mem.tail _ (List.Mem.head _))))))) | exact List.Mem.tail _ (List.Mem.tail _ (List.Mem.tail _ (List.Mem.tail _ (List.Mem.tail _ (List.Mem.tail _ (List.Mem.tail _ (List.Mem.tail _ (List.Mem.head _)))))))) | exact List.Mem.tail _ (List.Mem.tail _ (List.Mem.tail _ (List.Mem.tail _ (List.Mem.tail _ (List.Mem.tail _ (List.Mem.tail _ (List.Mem.tail _ (List.Mem.tail _ (List.Mem.head _))))))))) | exact List.Mem.tail _ (List.Mem.tail _ (List.Mem.tail _ (List.Mem.tail _ (List.Mem.tail _ (List.Mem.tail _ (List.Mem.tail _ (List.Mem.tail _ (List.Mem.tail _ (List.Mem.tail _ (List.Mem.head _)))))))))) | exact List.Mem.tail _ (List.Mem.tail _ (List.Mem.tail _ (List.Mem.tail _ (List.Mem.tail _ (List.Mem.tail _ (List.Mem.tail _ (List.Mem.tail _ (List.Mem.tail _ (List.Mem.tail _ (List.Mem.tail _ (List.Mem.head _)))))))))))))) (by omega)
  refine ⟨b, hb, ?_⟩
  have hj := ws_join hi ⟨none, 0, []⟩
  have hs := ws_split hi
  generalize hrest : (R.ws.take i ++ R.ws.drop (i + 1)).map RW.row = rest at hj hs
  have e0 : refL R = (hdr R).take 2 ++ rowP 22 1 (some b) R.ws.length R.cw (R.ws.map RW.val) :: rowP 4 1 R.gp R.sp.length R.cp (R.sp.map .bool) :: R.ws.map RW.row := by rw [← hb]; rfl
  rw [e0] at hT
  refine StRow1.t hT (.tail (.tail .head)) (by rw [List.length_map]; exact hi) rfl fun w' h => hK w' ?_
  have e1 : refL { R with ws := R.ws.set i ⟨none, 0, []⟩ } = (hdr R).take 2 ++ rowP 22 1 (some b) R.ws.length R.cw ((R.ws.map RW.val).set i (.slice none 0 0)) :: rowP 4 1 R.gp R.sp.length R.cp (R.sp.map .bool) :: (R.ws.set i ⟨none, 0, []⟩).map RW.row := by
    rw [← hb]; simp only [refL, hdr, List.length_set, List.map_set]; rfl
  rw [e1]
  have h2 : T F w0 w' ((R.ws[i]).row :: (rowP 22 1 (some b) R.ws.length R.cw ((R.ws.map RW.val).set i (.slice none 0 0)) :: ((hdr R).take 2 ++ rowP 4 1 R.gp R.sp.length R.cp (R.sp.map .bool) :: (rest ++ X)))) := by
    refine h.swap ?_
    have h3 : (R.ws.map RW.row ++ X).Perm ((R.ws[i]).row :: (rest ++ X)) := hs.append_right X
    have h4 := h3.append_left (rowP 22 1 (some b) R.ws.length R.cw ((R.ws.map RW.val).set i (.slice none 0 0)) :: ((hdr R).take 2 ++ [rowP 4 1 R.gp R.sp.length R.cp (R.sp.map .bool)]))
    exact h4.trans List.perm_middle
  have h5 := nil_row (T.drop h2)
  refine h5.swap ?_
  have h6 : ((RW.row ⟨none, 0, []⟩ :: rest) ++ X).Perm ((R.ws.set i ⟨none, 0, []⟩).map RW.row ++ X) := hj.append_right X
  have h7 := h6.append_left ((hdr R).take 2 ++ [rowP 22 1 (some b) R.ws.length R.cw ((R.ws.map RW.val).set i (.slice none 0 0)), rowP 4 1 R.gp R.sp.length R.cp (R.sp.map .bool)])
  refine List.Perm.trans ?_ h7
  have h8 : (RW.row ⟨none, 0, []⟩ :: (rowP 22 1 (some b) R.ws.length R.cw ((R.ws.map RW.val).set i (.slice none 0 0)) :: ((hdr R).take 2 ++ rowP 4 1 R.gp R.sp.length R.cp (R.sp.map .bool) :: (rest ++ X)))).Perm
      (RW.row ⟨none, 0, []⟩ :: ((hdr R).take 2 ++ [rowP 22 1 (some b) R.ws.length R.cw ((R.ws.map RW.val).set i (.slice none 0 0)), rowP 4 1 R.gp R.sp.length R.cp (R.sp.map .bool)] ++ (rest ++ X))) := by
    refine List.Perm.cons _ ?_
    rw [List.append_assoc]
    exact (List.perm_middle (l₁ := (hdr R).take 2)).symm
  exact h8.trans List.perm_middle.symm
/-- one sector is settled: n of its writes are kept -/
def keepA (a : AD) (i n : Nat) : AD := { a with safe := if 0 < n then a.safe.set i ((a.pend i).getD (n - 1) noB) else a.safe, pend := fun j => if j = i then [] else a.pend j }
theorem keep_abs {R : RL} {a : AD} (hA : RAbs R a) {i n : Nat} (hi : i < a.safe.length) {safe' : List ByteArray} (hs : safe' = if 0 < n then a.safe.set i ((a.pend i).getD (n - 1) noB) else a.safe) : RAbs { R with safe := safe', ws := R.ws.set i ⟨none, 0, []⟩ } (keepA a i n) := by
  have hl : (keepA a i n).safe.length = a.safe.length := by
    unfold keepA
    simp only
    split
    · rw [List.length_set]
    · rfl
  refine ⟨by rw [hl]; exact hA.n1, hs, ?_, fun j e he => ?_, by rw [hl]; exact hA.pl, hA.sp, hA.dead, hA.power⟩
  · show (R.ws.set i ⟨none, 0, []⟩).length = _
    rw [List.length_set, hl]; exact hA.wl
  · have h2 : (R.ws.set i ⟨none, 0, []⟩)[j]? = some e := he
    show e.l = if j = i then [] else a.pend j
    by_cases hj : j = i
    · subst hj
      rw [List.getElem?_set_self (by rw [hA.wl]; exact hi)] at h2
      rw [if_pos rfl]
      exact (congrArg RW.l (Option.some.inj h2)).symm
    · rw [List.getElem?_set_ne (fun h => hj h.symm)] at h2
      rw [if_neg hj]
      exact hA.ws j e h2
theorem rkeep_r {p : Nat} {a : AD} {F : List Nat} {w0 w : World} {X : List A} (h : Rf p a F w0 w X) (hF : a.Few 1000000) {i n : Nat} (hi : i < a.safe.length) (hn : n ≤ (a.pend i).length) :
    Calls Try.prog 54 #[.pointer (some ⟨p, 0, none⟩), .int .i64 i, .int .i64 n] w fun e w' => e = .returned (.tuple #[]) ∧ Rf p (keepA a i n) F w0 w' X := by
  obtain ⟨R, rfl, hA, hT⟩ := h
  refine (revetmentref04_Drive_keep_calls (R := fun v w' => v = .tuple #[] ∧ Rf R.p (keepA a i n) F w0 w' X) ?_).mono fun e w' ⟨v, he, hv, ht⟩ => ⟨hv ▸ he, ht⟩
  unfold revetmentref04_Drive_keep
  have hw : i < R.ws.length := by rw [hA.wl]; exact hi
  have hs : i < R.safe.length := by rw [hA.safe]; exact hi
  have hws := hA.ws i _ (List.getElem?_eq_getElem hw)
  refine Join.intro fun J hJ => ?_
  have fin : ∀ (safe' : List ByteArray) (w1 : World), safe'.length = R.safe.length → T F w0 w1 (refL { R with safe := safe' } ++ X) → (safe' = if 0 < n then a.safe.set i ((a.pend i).getD (n - 1) noB) else a.safe) → J [] w1 := by
    intro safe' w1 hl hT1 hs'
    refine hJ _ _ ⟨rfl, _, rfl, ?_⟩
    obtain ⟨b, hb, hst⟩ := setNil (R := { R with safe := safe' }) (i := i) hT1 hw fun w' hT2 => (⟨rfl, { R with safe := safe', ws := R.ws.set i ⟨none, 0, []⟩ }, rfl, keep_abs hA hi hs', hT2⟩ : Value.tuple #[] = Value.tuple #[] ∧ Rf R.p (keepA a i n) F w0 w' X)
    have hb : R.gw = some b := hb
    refine ⟨_, _, _, hT1.ldA (by first | exact List.Mem.head _ | exact List.Mem.tail _ (List.Mem.head _) | exact List.Mem.tail _ (List.Mem.tail _ (List.Mem.head _)) | exact List.Mem.tail _ (List.Mem.tail _ (List.Mem.tail _ (List.Mem.head _))) | exact List.Mem.tail _ (List.Mem.tail _ (List.Mem.tail _ (List.Mem.tail _ (List.Mem.head _)))) | exact List.Mem.tail _ (List.Mem.tail _ (List.Mem.tail _ (List.Mem.tail _ (List.Mem.tail _ (List.Mem.head _))))) | exact List.Mem.tail _ (List.Mem.tail _ (List.Mem.tail _ (List.Mem.tail _ (List.Mem.tail _ (List.Mem.tail _ (List.Mem.head _)))))) | exact List.Mem.tail _ (List.Mem.tail _ (List.Mem.tail _ (List.Mem.tail _ (List.Mem.tail _ (List.Mem.tail _ (List.Mem.tail _ (List.Mem.head _))))))) | exact List.Mem.tail _ (List.Mem.tail _ (List.Mem.tail _ (List.Mem.tail _ (List.Mem.tail _ (List.Mem.tail _ (List.Mem.tail _ (List.Mem.tail _ (List.Mem.head _)))))))) | exact List.Mem.tail _ (List.Mem.tail _ (List.Mem.tail _ (List.Mem.tail _ (List.Mem.tail _ (List.Mem.tail _ (List.Mem.tail _ (List.Mem.tail _ (List.Mem.tail _ (List.Mem.head _))))))))) | exact List.Mem.tail _ (List.Mem.tail _ (List.Mem.tail _ (List.Mem.tail _ (List.Mem.tail _ (List.Mem.tail _ (List.Mem.tail _ (List.Mem.tail _ (List.Mem.tail _ (List.Mem.tail _ (List.Mem.head _)))))))))) | exact List.Mem.tail _ (List.Mem.tail _ (List.Mem.tail _ (List.Mem.tail _ (List.Mem.tail _ (List.Mem.tail _ (List.Mem.tail _ (List.Mem.tail _ (List.Mem.tail _ (List.Mem.tail _ (List.Mem.tail _ (List.Mem.head _)))))))))))) rfl, _, (by show ptr R.gw = _; rw [hb]; rfl), by omega, by show (i : Int) < (R.ws.length : Int); omega, ?_⟩
    exact hst
  refine ⟨dec_t fun hpos => ?_, dec_f fun hz => fin R.safe w rfl hT (by rw [if_neg (by omega), hA.safe])⟩
  have hfl := hF i
  have w1' : IntKind.i64.wrap ((n : Int) - 1) = ((n - 1 : Nat) : Int) := by rw [wrap64 _ (by omega) (by omega)]; omega
  rw [w1']
  have hlt : n - 1 < (R.ws[i]).l.length := by rw [hws]; omega
  have hTd := hT.drew
  have hmem : (R.ws[i]).row ∈ refL R ++ X := List.mem_append_left _ (List.mem_append_right _ (List.mem_map_of_mem (List.getElem_mem hw)))
  obtain ⟨b1, hb1, _⟩ := T.row1 (i := i) (v := (R.ws[i]).val) hTd (show rowP 22 1 R.gw R.ws.length R.cw (R.ws.map RW.val) ∈ _ from (by first | exact List.Mem.head _ | exact List.Mem.tail _ (List.Mem.head _) | exact List.Mem.tail _ (List.Mem.tail _ (List.Mem.head _)) | exact List.Mem.tail _ (List.Mem.tail _ (List.Mem.tail _ (List.Mem.head _))) | exact List.Mem.tail _ (List.Mem.tail _ (List.Mem.tail _ (List.Mem.tail _ (List.Mem.head _)))) | exact List.Mem.tail _ (List.Mem.tail _ (List.Mem.tail _ (List.Mem.tail _ (List.Mem.tail _ (List.Mem.head _))))) | exact List.Mem.tail _ (List.Mem.tail _ (List.Mem.tail _ (List.Mem.tail _ (List.Mem.tail _ (List.Mem.tail _ (List.Mem.head _)))))) | exact List.Mem.tail _ (List.Mem.tail _ (List.Mem.tail _ (List.Mem.tail _ (List.Mem.tail _ (List.Mem.tail _ (List.Mem.tail _ (List.Mem.head _))))))) | exact List.Mem.tail _ (List.Mem.tail _ (List.Mem.tail _ (List.Mem.tail _ (List.Mem.tail _ (List.Mem.tail _ (List.Mem.tail _ (List.Mem.tail _ (List.Mem.head _)))))))) | exact List.Mem.tail _ (List.Mem.tail _ (List.Mem.tail _ (List.Mem.tail _ (List.Mem.tail _ (List.Mem.tail _ (List.Mem.tail _ (List.Mem.tail _ (List.Mem.tail _ (List.Mem.head _))))))))) | exact List.Mem.tail _ (List.Mem.tail _ (List.Mem.tail _ (List.Mem.tail _ (List.Mem.tail _ (List.Mem.tail _ (List.Mem.tail _ (List.Mem.tail _ (List.Mem.tail _ (List.Mem.tail _ (List.Mem.head _)))))))))) | exact List.Mem.tail _ (List.Mem.tail _ (List.Mem.tail _ (List.Mem.tail _ (List.Mem.tail _ (List.Mem.tail _ (List.Mem.tail _ (List.Mem.tail _ (List.Mem.tail _ (List.Mem.tail _ (List.Mem.tail _ (List.Mem.head _))))))))))))) (by rw [List.getElem?_map, List.getElem?_eq_getElem hw]; rfl)
  obtain ⟨b2, hb2, _⟩ := T.row1 (i := n - 1) (v := .string (R.ws[i]).l[n - 1]) hTd (show rowP 9 1 (R.ws[i]).g (R.ws[i]).l.length (R.ws[i]).cap ((R.ws[i]).l.map .string) ∈ _ from hmem) (by rw [List.getElem?_map, List.getElem?_eq_getElem hlt]; rfl)
  obtain ⟨b3, hb3, hst⟩ := setSafe (i := i) (s := (R.ws[i]).l[n - 1]) (K := fun w3 => J [] w3) hTd hs fun w' hT2 => fin _ w' (by rw [List.length_set]) hT2 (by
    rw [if_pos (by omega), ← hA.safe]
    congr 1
    rw [← hws, List.getD_eq_getElem?_getD, List.getElem?_eq_getElem hlt]; rfl)
  refine ⟨fun w => T F w0 w (refL R ++ X), hTd, _, rfl, _, _, _, fun w h => h.ld (by first | exact List.Mem.head _ | exact List.Mem.tail _ (List.Mem.head _) | exact List.Mem.tail _ (List.Mem.tail _ (List.Mem.head _)) | exact List.Mem.tail _ (List.Mem.tail _ (List.Mem.tail _ (List.Mem.head _))) | exact List.Mem.tail _ (List.Mem.tail _ (List.Mem.tail _ (List.Mem.tail _ (List.Mem.head _)))) | exact List.Mem.tail _ (List.Mem.tail _ (List.Mem.tail _ (List.Mem.tail _ (List.Mem.tail _ (List.Mem.head _))))) | exact List.Mem.tail _ (List.Mem.tail _ (List.Mem.tail _ (List.Mem.tail _ (List.Mem.tail _ (List.Mem.tail _ (List.Mem.head _)))))) | exact List.Mem.tail _ (List.Mem.tail _ (List.Mem.tail _ (List.Mem.tail _ (List.Mem.tail _ (List.Mem.tail _ (List.Mem.tail _ (List.Mem.head _))))))) | exact List.Mem.tail _ (List.Mem.tail _ (List.Mem.tail _ (List.Mem.tail _ (List.Mem.tail _ (List.Mem.tail _ (List.Mem.tail _ (List.Mem.tail _ (List.Mem.head _)))))))) | exact List.Mem.tail _ (List.Mem.tail _ (List.Mem.tail _ (List.Mem.tail _ (List.Mem.tail _ (List.Mem.tail _ (List.Mem.tail _ (List.Mem.tail _ (List.Mem.tail _ (List.Mem.head _))))))))) | exact List.Mem.tail _ (List.Mem.tail _ (List.Mem.tail _ (List.Mem.tail _ (List.Mem.tail _ (List.Mem.tail _ (List.Mem.tail _ (List.Mem.tail _ (List.Mem.tail _ (List.Mem.tail _ (List.Mem.head _)))))))))) | exact List.Mem.tail _ (List.Mem.tail _ (List.Mem.tail _ (List.Mem.tail _ (List.Mem.tail _ (List.Mem.tail _ (List.Mem.tail _ (List.Mem.tail _ (List.Mem.tail _ (List.Mem.tail _ (List.Mem.tail _ (List.Mem.head _)))))))))))) rfl, _, rfl, _, _, _, fun w h => h.ldA (by first | exact List.Mem.head _ | exact List.Mem.tail _ (List.Mem.head _) | exact List.Mem.tail _ (List.Mem.tail _ (List.Mem.head _)) | exact List.Mem.tail _ (List.Mem.tail _ (List.Mem.tail _ (List.Mem.head _))) | exact List.Mem.tail _ (List.Mem.tail _ (List.Mem.tail _ (List.Mem.tail _ (List.Mem.head _)))) | exact List.Mem.tail _ (List.Mem.tail _ (List.Mem.tail _ (List.Mem.tail _ (List.Mem.tail _ (List.Mem.head _))))) | exact List.Mem.tail _ (List.Mem.tail _ (List.Mem.tail _ (List.Mem.tail _ (List.Mem.tail _ (List.Mem.tail _ (List.Mem.head _)))))) | exact List.Mem.tail _ (List.Mem.tail _ (List.Mem.tail _ (List.Mem.tail _ (List.Mem.tail _ (List.Mem.tail _ (List.Mem.tail _ (List.Mem.head _))))))) | exact List.Mem.tail _ (List.Mem.tail _ (List.Mem.tail _ (List.Mem.tail _ (List.Mem.tail _ (List.Mem.tail _ (List.Mem.tail _ (List.Mem.tail _ (List.Mem.head _)))))))) | exact List.Mem.tail _ (List.Mem.tail _ (List.Mem.tail _ (List.Mem.tail _ (List.Mem.tail _ (List.Mem.tail _ (List.Mem.tail _ (List.Mem.tail _ (List.Mem.tail _ (List.Mem.head _))))))))) | exact List.Mem.tail _ (List.Mem.tail _ (List.Mem.tail _ (List.Mem.tail _ (List.Mem.tail _ (List.Mem.tail _ (List.Mem.tail _ (List.Mem.tail _ (List.Mem.tail _ (List.Mem.tail _ (List.Mem.head _)))))))))) | exact List.Mem.tail _ (List.Mem.tail _ (List.Mem.tail _ (List.Mem.tail _ (List.Mem.tail _ (List.Mem.tail _ (List.Mem.tail _ (List.Mem.tail _ (List.Mem.tail _ (List.Mem.tail _ (List.Mem.tail _ (List.Mem.head _)))))))))))) rfl, _, by rw [hb1]; rfl, by omega, by omega, ptr (R.ws[i]).g, (R.ws[i]).l.length, (R.ws[i]).cap, fun w h => ?_, _, by rw [hb2]; rfl, by omega, by omega, _, fun w h => ?_, _, by rw [hb3]; rfl, by omega, by omega, hst⟩
  · obtain ⟨b4, hb4, hc⟩ := T.row1 (i := i) (v := (R.ws[i]).val) h (show rowP 22 1 R.gw R.ws.length R.cw (R.ws.map RW.val) ∈ _ from (by first | exact List.Mem.head _ | exact List.Mem.tail _ (List.Mem.head _) | exact List.Mem.tail _ (List.Mem.tail _ (List.Mem.head _)) | exact List.Mem.tail _ (List.Mem.tail _ (List.Mem.tail _ (List.Mem.head _))) | exact List.Mem.tail _ (List.Mem.tail _ (List.Mem.tail _ (List.Mem.tail _ (List.Mem.head _)))) | exact List.Mem.tail _ (List.Mem.tail _ (List.Mem.tail _ (List.Mem.tail _ (List.Mem.tail _ (List.Mem.head _))))) | exact List.Mem.tail _ (List.Mem.tail _ (List.Mem.tail _ (List.Mem.tail _ (List.Mem.tail _ (List.Mem.tail _ (List.Mem.head _)))))) | exact List.Mem.tail _ (List.Mem.tail _ (List.Mem.tail _ (List.Mem.tail _ (List.Mem.tail _ (List.Mem.tail _ (List.Mem.tail _ (List.Mem.head _))))))) | exact List.Mem.tail _ (List.Mem.tail _ (List.Mem.tail _ (List.Mem.tail _ (List.Mem.tail _ (List.Mem.tail _ (List.Mem.tail _ (List.Mem.tail _ (List.Mem.head _)))))))) | exact List.Mem.tail _ (List.Mem.tail _ (List.Mem.tail _ (List.Mem.tail _ (List.Mem.tail _ (List.Mem.tail _ (List.Mem.tail _ (List.Mem.tail _ (List.Mem.tail _ (List.Mem.head _))))))))) | exact List.Mem.tail _ (List.Mem.tail _ (List.Mem.tail _ (List.Mem.tail _ (List.Mem.tail _ (List.Mem.tail _ (List.Mem.tail _ (List.Mem.tail _ (List.Mem.tail _ (List.Mem.tail _ (List.Mem.head _)))))))))) | exact List.Mem.tail _ (List.Mem.tail _ (List.Mem.tail _ (List.Mem.tail _ (List.Mem.tail _ (List.Mem.tail _ (List.Mem.tail _ (List.Mem.tail _ (List.Mem.tail _ (List.Mem.tail _ (List.Mem.tail _ (List.Mem.head _))))))))))))) (by rw [List.getElem?_map, List.getElem?_eq_getElem hw]; rfl)
    rw [hb1] at hb4; cases hb4
    exact hc
  · obtain ⟨b4, hb4, hc⟩ := T.row1 (i := n - 1) (v := .string (R.ws[i]).l[n - 1]) h (show rowP 9 1 (R.ws[i]).g (R.ws[i]).l.length (R.ws[i]).cap ((R.ws[i]).l.map .string) ∈ _ from hmem) (by rw [List.getElem?_map, List.getElem?_eq_getElem hlt]; rfl)
    rw [hb2] at hb4; cases hb4
    exact hc
theorem rspoil_r {p : Nat} {a : AD} {F : List Nat} {w0 w : World} {X : List A} (h : Rf p a F w0 w X) (i : Int) :
    Calls Try.prog 41 #[.pointer (some ⟨p, 0, none⟩), .int .i64 i] w fun e w' => e = .returned (.int .i64 (a.may i)) ∧ Rf p (a.spoil i) F w0 w' X := by
  have h0 := h
  obtain ⟨R, rfl, hA, hT⟩ := h
  refine (revetmentref04_Drive_Spoil_calls (R := fun v w' => v = .int .i64 (a.may i) ∧ Rf R.p (a.spoil i) F w0 w' X) ?_).mono fun e w' ⟨v, he, hv, ht⟩ => ⟨hv ▸ he, ht⟩
  unfold revetmentref04_Drive_Spoil
  refine (rmay_r h0 i).mono fun e w1 ⟨he, hx⟩ => ⟨_, he, beq_t fun hm => ?_, beq_f fun hm => ⟨rfl, ?_⟩⟩
  · have hi := AD.may_zero hm
    have hp : i.toNat < R.sp.length := by rw [hA.pl]; omega
    have hT1 := hT.quiet hx
    have ha : a.spoil i = { a with spoilt := fun j => if j = i.toNat then true else a.spoilt j } := by unfold AD.spoil; rw [if_neg (by simpa using hm)]
    obtain ⟨b, hb, hst⟩ := setSp (i := i.toNat) (v := true) hT1 hp fun w' hT2 => (⟨rfl, { R with sp := R.sp.set i.toNat true }, rfl, by
      rw [ha]
      refine ⟨hA.n1, hA.safe, hA.wl, hA.ws, by show (R.sp.set _ _).length = _; rw [List.length_set]; exact hA.pl, fun j x hx => ?_, hA.dead, hA.power⟩
      have h2 : (R.sp.set i.toNat true)[j]? = some x := hx
      show x = if j = i.toNat then true else a.spoilt j
      by_cases hj : j = i.toNat
      · subst hj
        rw [List.getElem?_set_self hp] at h2
        rw [if_pos rfl]
        exact (Option.some.inj h2).symm
      · rw [List.getElem?_set_ne (fun h => hj h.symm)] at h2
        rw [if_neg hj]
        exact hA.sp j x h2, hT2⟩ : Value.int .i64 (a.may i) = Value.int .i64 (a.may i) ∧ Rf R.p (a.spoil i) F w0 w' X)
    exact ⟨_, rfl, _, _, _, hT1.ldA (by first | exact List.Mem.head _ | exact List.Mem.tail _ (List.Mem.head _) | exact List.Mem.tail _ (List.Mem.tail _ (List.Mem.head _)) | exact List.Mem.tail _ (List.Mem.tail _ (List.Mem.tail _ (List.Mem.head _))) | exact List.Mem.tail _ (List.Mem.tail _ (List.Mem.tail _ (List.Mem.tail _ (List.Mem.head _)))) | exact List.Mem.tail _ (List.Mem.tail _ (List.Mem.tail _ (List.Mem.tail _ (List.Mem.tail _ (List.Mem.head _))))) | exact List.Mem.tail _ (List.Mem.tail _ (List.Mem.tail _ (List.Mem.tail _ (List.Mem.tail _ (List.Mem.tail _ (List.Mem.head _)))))) | exact List.Mem.tail _ (List.Mem.tail _ (List.Mem.tail _ (List.Mem.tail _ (List.Mem.tail _ (List.Mem.tail _ (List.Mem.tail _ (List.Mem.head _))))))) | exact List.Mem.tail _ (List.Mem.tail _ (List.Mem.tail _ (List.Mem.tail _ (List.Mem.tail _ (List.Mem.tail _ (List.Mem.tail _ (List.Mem.tail _ (List.Mem.head _)))))))) | exact List.Mem.tail _ (List.Mem.tail _ (List.Mem.tail _ (List.Mem.tail _ (List.Mem.tail _ (List.Mem.tail _ (List.Mem.tail _ (List.Mem.tail _ (List.Mem.tail _ (List.Mem.head _))))))))) | exact List.Mem.tail _ (List.Mem.tail _ (List.Mem.tail _ (List.Mem.tail _ (List.Mem.tail _ (List.Mem.tail _ (List.Mem.tail _ (List.Mem.tail _ (List.Mem.tail _ (List.Mem.tail _ (List.Mem.head _)))))))))) | exact List.Mem.tail _ (List.Mem.tail _ (List.Mem.tail _ (List.Mem.tail _ (List.Mem.tail _ (List.Mem.tail _ (List.Mem.tail _ (List.Mem.tail _ (List.Mem.tail _ (List.Mem.tail _ (List.Mem.tail _ (List.Mem.head _)))))))))))) rfl, _, by rw [hb]; rfl, by omega, by omega, hst⟩
  · unfold AD.spoil
    rw [if_pos hm]
    exact h0.quiet hx
theorem rchange_r {p : Nat} {a : AD} {F : List Nat} {w0 w : World} {X : List A} (h : Rf p a F w0 w X) (i : Int) (s : ByteArray) :
    Calls Try.prog 56 #[.pointer (some ⟨p, 0, none⟩), .int .i64 i, .string s] w fun e w' => e = .returned (.int .i64 (a.put i s)) ∧ Rf p (a.change i s) F w0 w' X := by
  have h0 := h
  obtain ⟨R, rfl, hA, hT⟩ := h
  refine (revetmentref04_Drive_Change_calls (R := fun v w' => v = .int .i64 (a.put i s) ∧ Rf R.p (a.change i s) F w0 w' X) ?_).mono fun e w' ⟨v, he, hv, ht⟩ => ⟨hv ▸ he, ht⟩
  unfold revetmentref04_Drive_Change
  have fail : ∀ n, a.put i s = n → n ≠ 0 → ∀ w1, Ext w w1 → Value.int .i64 n = .int .i64 (a.put i s) ∧ Rf R.p (a.change i s) F w0 w1 X := fun n hn h1 w1 hx => by
    refine ⟨by rw [hn], ?_⟩
    unfold AD.change
    rw [if_pos (by rw [hn]; exact h1)]
    exact h0.quiet hx
  refine (rmay_r h0 i).mono fun e w1 ⟨he, hx⟩ => ⟨_, he, bne_t fun hm => fail _ (by unfold AD.put; rw [if_pos hm]) hm _ hx, bne_f fun hm => ⟨bne_t fun hs => fail 1 (by unfold AD.put; rw [if_neg (by simpa using hm), if_pos (by omega)]) (by decide) _ hx, bne_f fun hs => ?_⟩⟩
  have hz : a.put i s = 0 := by unfold AD.put; rw [if_neg (by simpa using hm), if_neg (by omega)]
  have hi := AD.may_zero hm
  have hw : i.toNat < R.ws.length := by rw [hA.wl]; omega
  have hsl : i.toNat < R.safe.length := by rw [hA.safe]; omega
  have hT1 := hT.quiet hx
  have ha : a.change i s = { a with safe := a.safe.set i.toNat s, pend := fun j => if j = i.toNat then [] else a.pend j } := AD.change_of hz
  have last : ∀ w2, T F w0 w2 (refL { R with safe := R.safe.set i.toNat s } ++ X) → ∃ a25 : Addr, some (⟨R.p, 0, none⟩ : Addr) = some a25 ∧ ∃ (p27 : Option Addr) (l27 c27 : Nat), w2.cell? (a25.add 1) = some (.slice p27 l27 c27) ∧
      ∃ a29 : Addr, p27 = some a29 ∧ (0 : Int) ≤ i ∧ i < (l27 : Int) ∧ St (Addr.add a29 (i.toNat * 1)) (.slice none 0 0) w2 fun w3 => Value.int .i64 0 = .int .i64 (a.put i s) ∧ Rf R.p (a.change i s) F w0 w3 X := by
    intro w2 hT2
    obtain ⟨b, hb, hst⟩ := setNil (R := { R with safe := R.safe.set i.toNat s }) (i := i.toNat) hT2 hw fun w' hT3 => (⟨by rw [hz], { R with safe := R.safe.set i.toNat s, ws := R.ws.set i.toNat ⟨none, 0, []⟩ }, rfl, by
      rw [ha]
      refine ⟨by show (a.safe.set _ _).length ≤ _; rw [List.length_set]; exact hA.n1, by show R.safe.set _ _ = _; rw [hA.safe], by show (R.ws.set _ _).length = (a.safe.set _ _).length; rw [List.length_set, List.length_set]; exact hA.wl, fun j e he => ?_, by show _ = (a.safe.set _ _).length; rw [List.length_set]; exact hA.pl, hA.sp, hA.dead, hA.power⟩
      have h2 : (R.ws.set i.toNat ⟨none, 0, []⟩)[j]? = some e := he
      show e.l = if j = i.toNat then [] else a.pend j
      by_cases hj : j = i.toNat
      · subst hj
        rw [List.getElem?_set_self hw] at h2
        rw [if_pos rfl]
        exact (congrArg RW.l (Option.some.inj h2)).symm
      · rw [List.getElem?_set_ne (fun h => hj h.symm)] at h2
        rw [if_neg hj]
        exact hA.ws j e h2, hT3⟩ : Value.int .i64 0 = .int .i64 (a.put i s) ∧ Rf R.p (a.change i s) F w0 w' X)
    have hb : R.gw = some b := hb
    exact ⟨_, rfl, _, _, _, hT2.ldA (by first | exact List.Mem.head _ | exact List.Mem.tail _ (List.Mem.head _) | exact List.Mem.tail _ (List.Mem.tail _ (List.Mem.head _)) | exact List.Mem.tail _ (List.Mem.tail _ (List.Mem.tail _ (List.Mem.head _))) | exact List.Mem.tail _ (List.Mem.tail _ (List.Mem.tail _ (List.Mem.tail _ (List.Mem.head _)))) | exact List.Mem.tail _ (List.Mem.tail _ (List.Mem.tail _ (List.Mem.tail _ (List.Mem.tail _ (List.Mem.head _))))) | exact List.Mem.tail _ (List.Mem.tail _ (List.Mem.tail _ (List.Mem.tail _ (List.Mem.tail _ (List.Mem.tail _ (List.Mem.head _)))))) | exact List.Mem.tail _ (List.Mem.tail _ (List.Mem.tail _ (List.Mem.tail _ (List.Mem.tail _ (List.Mem.tail _ (List.Mem.tail _ (List.Mem.head _))))))) | exact List.Mem.tail _ (List.Mem.tail _ (List.Mem.tail _ (List.Mem.tail _ (List.Mem.tail _ (List.Mem.tail _ (List.Mem.tail _ (List.Mem.tail _ (List.Mem.head _)))))))) | exact List.Mem.tail _ (List.Mem.tail _ (List.Mem.tail _ (List.Mem.tail _ (List.Mem.tail _ (List.Mem.tail _ (List.Mem.tail _ (List.Mem.tail _ (List.Mem.tail _ (List.Mem.head _))))))))) | exact List.Mem.tail _ (List.Mem.tail _ (List.Mem.tail _ (List.Mem.tail _ (List.Mem.tail _ (List.Mem.tail _ (List.Mem.tail _ (List.Mem.tail _ (List.Mem.tail _ (List.Mem.tail _ (List.Mem.head _)))))))))) | exact List.Mem.tail _ (List.Mem.tail _ (List.Mem.tail _ (List.Mem.tail _ (List.Mem.tail _ (List.Mem.tail _ (List.Mem.tail _ (List.Mem.tail _ (List.Mem.tail _ (List.Mem.tail _ (List.Mem.tail _ (List.Mem.head _)))))))))))) rfl, _, (by show ptr R.gw = _; rw [hb]; rfl), by omega, by show i < (R.ws.length : Int); omega, hst⟩
  obtain ⟨b, hb, hst⟩ := setSafe (i := i.toNat) (s := s) hT1 hsl last
  exact ⟨_, rfl, _, _, _, hT1.ld (by first | exact List.Mem.head _ | exact List.Mem.tail _ (List.Mem.head _) | exact List.Mem.tail _ (List.Mem.tail _ (List.Mem.head _)) | exact List.Mem.tail _ (List.Mem.tail _ (List.Mem.tail _ (List.Mem.head _))) | exact List.Mem.tail _ (List.Mem.tail _ (List.Mem.tail _ (List.Mem.tail _ (List.Mem.head _)))) | exact List.Mem.tail _ (List.Mem.tail _ (List.Mem.tail _ (List.Mem.tail _ (List.Mem.tail _ (List.Mem.head _))))) | exact List.Mem.tail _ (List.Mem.tail _ (List.Mem.tail _ (List.Mem.tail _ (List.Mem.tail _ (List.Mem.tail _ (List.Mem.head _)))))) | exact List.Mem.tail _ (List.Mem.tail _ (List.Mem.tail _ (List.Mem.tail _ (List.Mem.tail _ (List.Mem.tail _ (List.Mem.tail _ (List.Mem.head _))))))) | exact List.Mem.tail _ (List.Mem.tail _ (List.Mem.tail _ (List.Mem.tail _ (List.Mem.tail _ (List.Mem.tail _ (List.Mem.tail _ (List.Mem.tail _ (List.Mem.head _)))))))) | exact List.Mem.tail _ (List.Mem.tail _ (List.Mem.tail _ (List.Mem.tail _ (List.Mem.tail _ (List.Mem.tail _ (List.Mem.tail _ (List.Mem.tail _ (List.Mem.tail _ (List.Mem.head _))))))))) | exact List.Mem.tail _ (List.Mem.tail _ (List.Mem.tail _ (List.Mem.tail _ (List.Mem.tail _ (List.Mem.tail _ (List.Mem.tail _ (List.Mem.tail _ (List.Mem.tail _ (List.Mem.tail _ (List.Mem.head _)))))))))) | exact List.Mem.tail _ (List.Mem.tail _ (List.Mem.tail _ (List.Mem.tail _ (List.Mem.tail _ (List.Mem.tail _ (List.Mem.tail _ (List.Mem.tail _ (List.Mem.tail _ (List.Mem.tail _ (List.Mem.tail _ (List.Mem.head _)))))))))))) rfl, _, by rw [hb]; rfl, by omega, by omega, hst⟩
end Go.Proofs.Ytdppllkjibfjcaa
