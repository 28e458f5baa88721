import Derived.Test.YtdppllkjibfjcaaRd1
/-! the reference's drive: what turns. -/
namespace Go.Proofs.Ytdppllkjibfjcaa
open Go.Sh Go.Maps Go.RowKit
set_option linter.unusedVariables false
set_option maxHeartbeats 1000000
set_option maxRecDepth 20000
theorem append_none {P : Program} {w : World} {t ty e : TypeId} {i : TypeInfo} (cs : Array Bool) (ht : P.underlying t = some (.slice e)) (hi : P.info? e = some i) {g : Option Addr} {n cap : Nat} (hn : n ≤ cap) :
    (builtin .append #[t, t] ty cs #[.slice g n cap, .slice none 0 0]).run P w = .ok (.value (.slice g n cap)) w := by
  cases g <;> simp [builtin, Builtin.append_, run_underlying ht, sizeOf, typeInfo, program, Sem.run, hi, Builtin.lenOf, Builtin.firstCells, loadCells, hn, storeCells, Result.andThen]
/-- all of a row's texts behind another one's -/
theorem append_row {F : List Nat} {w0 w : World} {Γ Δ : List A} {g g2 : Option Nat} {n cap n2 cap2 : Nat} {l l2 : List ByteArray} (hT : T F w0 w Γ) (hk : Pick (rowP 9 1 g n cap (l.map .string)) Γ Δ) (hm : rowP 9 1 g2 n2 cap2 (l2.map .string) ∈ Γ) (hn : n ≤ 1000000) (hn2 : n2 ≤ 1000000) :
    ∃ g' cap' w', (builtin .append #[22, 22] 22 #[false, false] #[.slice (ptr g) n cap, .slice (ptr g2) n2 cap2]).run Try.prog w = .ok (.value (.slice (ptr g') (n + n2) cap')) w' ∧ T F w0 w' (rowP 9 1 g' (n + n2) cap' ((l ++ l2).map .string) :: Δ) := by
  have h1 := hT.says hm
  have hl2 := rowP.len h1
  cases g2 with
  | none =>
    have h2 : cap2 = 0 := h1.2.2.2
    have h3 : n2 ≤ cap2 := h1.2.1
    obtain rfl : n2 = 0 := by omega
    subst h2
    have : l2 = [] := by
      have : (l2.map Value.string).length = 0 := by simpa using hl2
      simpa using this
    subst this
    have h4 := (hT.pick hk).says List.mem_cons_self
    refine ⟨g, cap, w, append_none (e := 9) _ (by kernel_rfl) (i := Try.t9) (by kernel_rfl) h4.2.1, ?_⟩
    rw [List.append_nil]
    exact hT.pick hk
  | some b =>
    have hnews : ∀ j u, (l2.map Value.string)[j]? = some u → w.cell? (Addr.add ⟨b, 0, none⟩ j) = some u := fun j u hu => by
      rw [addr_add, Nat.zero_add]; exact rowP.cell h1 hu
    have hby : Try.t9.bytes = 16 := by kernel_rfl
    obtain ⟨g', cap', w', hr, hT'⟩ := append_t (P := Try.prog) (t := 22) (ty := 22) (e := 9) (i := Try.t9) (z := .string (ByteArray.mk #[])) (size := 1) #[false, false] (by kernel_rfl) (by kernel_rfl) (by kernel_rfl) (by kernel_rfl) (by kernel_rfl)
      hT hk (a := ⟨b, 0, none⟩) (m := n2) (c := cap2) (news := l2.map .string) hl2 hnews (fun u hu => by obtain ⟨x, _, rfl⟩ := List.mem_map.1 hu; rfl) (by simp only [maxLen]; omega) (by rw [hby]; omega)
    refine ⟨g', cap', w', hr, ?_⟩
    rw [List.map_append]
    exact hT'
theorem ws_split {ws : List RW} {i : Nat} (hi : i < ws.length) : (ws.map RW.row).Perm (ws[i].row :: (ws.take i ++ ws.drop (i + 1)).map RW.row) := by
  have e : ws = ws.take i ++ ws[i] :: ws.drop (i + 1) := by rw [List.getElem_cons_drop, List.take_append_drop]
  conv => lhs; rw [e]
  rw [List.map_append, List.map_cons, List.map_append]
  exact List.perm_middle
theorem ws_join {ws : List RW} {i : Nat} (hi : i < ws.length) (x : RW) : (x.row :: (ws.take i ++ ws.drop (i + 1)).map RW.row).Perm ((ws.set i x).map RW.row) := by
  rw [List.set_eq_take_append_cons_drop, if_pos hi, List.map_append, List.map_append, List.map_cons]
  exact List.perm_middle.symm
theorem nil_row {F : List Nat} {w0 w : World} {Γ : List A} (h : T F w0 w Γ) : T F w0 w (RW.row ⟨none, 0, []⟩ :: Γ) := h.nilRow 9 1
/-- the reference uses power that it counts -/
theorem ruse_r {R : RL} {F : List Nat} {w0 w : World} {X : List A} (hT : T F w0 w (refL R ++ X)) : Calls Try.prog 52 #[.pointer (some ⟨R.p, 0, none⟩)] w fun e w' => e = .returned (.tuple #[]) ∧ T F w0 w' (refL { R with left := if R.cut then IntKind.i64.wrap (R.left - 1) else R.left } ++ X) := by
  refine (revetmentref04_Drive_use_calls (R := fun v w' => v = .tuple #[] ∧ T F w0 w' (refL { R with left := if R.cut then IntKind.i64.wrap (R.left - 1) else R.left } ++ X)) ?_).mono fun e w' ⟨v, he, hv, ht⟩ => ⟨hv ▸ he, ht⟩
  unfold revetmentref04_Drive_use
  refine ⟨_, rfl, _, hT.ldA (by first | exact List.Mem.head _ | exact List.Mem.tail _ (List.Mem.head _) | exact List.Mem.tail _ (List.Mem.tail _ (List.Mem.head _)) | exact List.Mem.tail _ (List.Mem.tail _ (List.Mem.tail _ (List.Mem.head _))) | exact List.Mem.tail _ (List.Mem.tail _ (List.Mem.tail _ (List.Mem.tail _ (List.Mem.head _)))) | exact List.Mem.tail _ (List.Mem.tail _ (List.Mem.tail _ (List.Mem.tail _ (List.Mem.tail _ (List.Mem.head _))))) | exact List.Mem.tail _ (List.Mem.tail _ (List.Mem.tail _ (List.Mem.tail _ (List.Mem.tail _ (List.Mem.tail _ (List.Mem.head _)))))) | exact List.Mem.tail _ (List.Mem.tail _ (List.Mem.tail _ (List.Mem.tail _ (List.Mem.tail _ (List.Mem.tail _ (List.Mem.tail _ (List.Mem.head _))))))) | exact List.Mem.tail _ (List.Mem.tail _ (List.Mem.tail _ (List.Mem.tail _ (List.Mem.tail _ (List.Mem.tail _ (List.Mem.tail _ (List.Mem.tail _ (List.Mem.head _)))))))) | exact List.Mem.tail _ (List.Mem.tail _ (List.Mem.tail _ (List.Mem.tail _ (List.Mem.tail _ (List.Mem.tail _ (List.Mem.tail _ (List.Mem.tail _ (List.Mem.tail _ (List.Mem.head _))))))))) | exact List.Mem.tail _ (List.Mem.tail _ (List.Mem.tail _ (List.Mem.tail _ (List.Mem.tail _ (List.Mem.tail _ (List.Mem.tail _ (List.Mem.tail _ (List.Mem.tail _ (List.Mem.tail _ (List.Mem.head _)))))))))) | exact List.Mem.tail _ (List.Mem.tail _ (List.Mem.tail _ (List.Mem.tail _ (List.Mem.tail _ (List.Mem.tail _ (List.Mem.tail _ (List.Mem.tail _ (List.Mem.tail _ (List.Mem.tail _ (List.Mem.tail _ (List.Mem.head _)))))))))))) rfl, fun hc => ⟨_, rfl, _, hT.ldA (by first | exact List.Mem.head _ | exact List.Mem.tail _ (List.Mem.head _) | exact List.Mem.tail _ (List.Mem.tail _ (List.Mem.head _)) | exact List.Mem.tail _ (List.Mem.tail _ (List.Mem.tail _ (List.Mem.head _))) | exact List.Mem.tail _ (List.Mem.tail _ (List.Mem.tail _ (List.Mem.tail _ (List.Mem.head _)))) | exact List.Mem.tail _ (List.Mem.tail _ (List.Mem.tail _ (List.Mem.tail _ (List.Mem.tail _ (List.Mem.head _))))) | exact List.Mem.tail _ (List.Mem.tail _ (List.Mem.tail _ (List.Mem.tail _ (List.Mem.tail _ (List.Mem.tail _ (List.Mem.head _)))))) | exact List.Mem.tail _ (List.Mem.tail _ (List.Mem.tail _ (List.Mem.tail _ (List.Mem.tail _ (List.Mem.tail _ (List.Mem.tail _ (List.Mem.head _))))))) | exact List.Mem.tail _ (List.Mem.tail _ (List.Mem.tail _ (List.Mem.tail _ (List.Mem.tail _ (List.Mem.tail _ (List.Mem.tail _ (List.Mem.tail _ (List.Mem.head _)))))))) | exact List.Mem.tail _ (List.Mem.tail _ (List.Mem.tail _ (List.Mem.tail _ (List.Mem.tail _ (List.Mem.tail _ (List.Mem.tail _ (List.Mem.tail _ (List.Mem.tail _ (List.Mem.head _))))))))) | exact List.Mem.tail _ (List.Mem.tail _ (List.Mem.tail _ (List.Mem.tail _ (List.Mem.tail _ (List.Mem.tail _ (List.Mem.tail _ (List.Mem.tail _ (List.Mem.tail _ (List.Mem.tail _ (List.Mem.head _)))))))))) | exact List.Mem.tail _ (List.Mem.tail _ (List.Mem.tail _ (List.Mem.tail _ (List.Mem.tail _ (List.Mem.tail _ (List.Mem.tail _ (List.Mem.tail _ (List.Mem.tail _ (List.Mem.tail _ (List.Mem.tail _ (List.Mem.head _)))))))))))) rfl, _, rfl, ?_⟩, fun hc => ?_⟩
  · refine St.tA hT .head (by simp) (by rfl) rfl fun w2 h2 => ⟨rfl, ?_⟩
    have h3 : T F w0 w2 (refL { R with left := IntKind.i64.wrap (R.left - 1) } ++ X) := h2
    rw [if_pos hc]; exact h3
  · refine ⟨rfl, ?_⟩
    rw [if_neg (by rw [hc]; simp)]; exact hT
theorem RAbs.left {R : RL} {a : AD} (h : RAbs R a) (ho : a.off = false) : match (a.power.map (fun n : Nat => n - 1) : Option Nat) with
    | none => R.cut = false
    | some n => R.cut = true ∧ (if R.cut then IntKind.i64.wrap (R.left - 1) else R.left) = (n : Int) ∧ n ≤ 9223372036854775807 := by
  have hp := h.power
  cases ha : a.power with
  | none => rw [ha] at hp; exact hp
  | some n =>
    rw [ha] at hp
    have hn : n ≠ 0 := by
      intro e
      subst e
      unfold AD.off at ho
      rw [ha] at ho
      simp at ho
    simp only [Option.map_some] at hp ⊢
    refine ⟨hp.1, ?_, by omega⟩
    rw [hp.1, if_pos rfl, hp.2.1, wrap64 _ (by omega) (by omega)]
    omega
theorem perm4a {α : Type} (x y b s : α) (l : List α) : (x :: y :: b :: s :: l).Perm (b :: s :: y :: x :: l) := by
  have h1 : (x :: y :: b :: s :: l).Perm (y :: x :: b :: s :: l) := .swap _ _ _
  have h2 : (y :: x :: b :: s :: l).Perm ([b, s] ++ y :: x :: l) := (List.perm_append_comm (l₁ := [y, x]) (l₂ := [b, s])).append_right l
  exact h1.trans h2
theorem rwrite_r {p : Nat} {a : AD} {F : List Nat} {w0 w : World} {X : List A} (h : Rf p a F w0 w X) (hF : a.Few 999999) (i : Int) (s : ByteArray) :
    Calls Try.prog 26 #[.pointer (some ⟨p, 0, none⟩), .int .i64 i, .string s] w fun e w' => e = .returned (.int .i64 (a.put i s)) ∧ Rf p (a.write i s) F w0 w' X := by
  have h0 := h
  obtain ⟨R, rfl, hA, hT⟩ := h
  refine (revetmentref04_Drive_Write_calls (R := fun v w' => v = .int .i64 (a.put i s) ∧ Rf R.p (a.write i s) F w0 w' X) ?_).mono fun e w' ⟨v, he, hv, ht⟩ => ⟨hv ▸ he, ht⟩
  unfold revetmentref04_Drive_Write
  have fail : ∀ n, a.put i s = n → n ≠ 0 → ∀ w1, Ext w w1 → Value.int .i64 n = .int .i64 (a.put i s) ∧ Rf R.p (a.write i s) F w0 w1 X := fun n hn h1 w1 hx => by
    refine ⟨by rw [hn], ?_⟩
    unfold AD.write
    rw [if_pos (by rw [hn]; exact h1)]
    exact h0.quiet hx
  refine (rmay_r h0 i).mono fun e w1 ⟨he, hx⟩ => ⟨_, he, bne_t fun hm => fail _ (by unfold AD.put; rw [if_pos hm]) hm _ hx, bne_f fun hm => ⟨bne_t fun hs => fail 1 (by unfold AD.put; rw [if_neg (by simpa using hm), if_pos (by omega)]) (by decide) _ hx, bne_f fun hs => ?_⟩⟩
  have hs64 : s.size = 64 := by omega
  have hz : a.put i s = 0 := by unfold AD.put; rw [if_neg (by simpa using hm), if_neg (by omega)]
  have hi := AD.may_zero hm
  have hw : i.toNat < R.ws.length := by rw [hA.wl]; omega
  have hp : i.toNat < R.sp.length := by rw [hA.pl]; omega
  have hws := hA.ws i.toNat _ (List.getElem?_eq_getElem hw)
  have hfl : (R.ws[i.toNat]).l.length ≤ 999999 := by rw [hws]; exact hF _
  have hT1 := hT.quiet hx
  have hTx : T F w0 w1 ((R.ws[i.toNat]).row :: (hdr R ++ ((R.ws.take i.toNat ++ R.ws.drop (i.toNat + 1)).map RW.row ++ X))) := by
    refine hT1.swap ?_
    have h1 : (refL R ++ X).Perm (hdr R ++ ((R.ws[i.toNat]).row :: (R.ws.take i.toNat ++ R.ws.drop (i.toNat + 1)).map RW.row) ++ X) := by
      unfold refL
      exact ((ws_split hw).append_left (hdr R)).append_right X
    refine h1.trans ?_
    rw [List.append_assoc, List.cons_append]
    exact List.perm_middle
  generalize hrest : (R.ws.take i.toNat ++ R.ws.drop (i.toNat + 1)).map RW.row = rest at hTx
  refine Alloc.t hTx fun k18 w2 hT2 => ?_
  have hT2' : T F w0 w2 (rowP 9 1 (some k18) 0 0 (([] : List ByteArray).map .string) :: (R.ws[i.toNat]).row :: (hdr R ++ (rest ++ X))) := hT2.weak rfl fun g hg => ⟨rfl, Nat.le_refl _, by decide, #[], hg, rfl, rfl⟩
  obtain ⟨b, hb, hc⟩ := T.row1 (i := i.toNat) (v := (R.ws[i.toNat]).val) hT2' (show rowP 22 1 R.gw R.ws.length R.cw (R.ws.map RW.val) ∈ _ from (by first | exact List.Mem.head _ | exact List.Mem.tail _ (List.Mem.head _) | exact List.Mem.tail _ (List.Mem.tail _ (List.Mem.head _)) | exact List.Mem.tail _ (List.Mem.tail _ (List.Mem.tail _ (List.Mem.head _))) | exact List.Mem.tail _ (List.Mem.tail _ (List.Mem.tail _ (List.Mem.tail _ (List.Mem.head _)))) | exact List.Mem.tail _ (List.Mem.tail _ (List.Mem.tail _ (List.Mem.tail _ (List.Mem.tail _ (List.Mem.head _))))) | exact List.Mem.tail _ (List.Mem.tail _ (List.Mem.tail _ (List.Mem.tail _ (List.Mem.tail _ (List.Mem.tail _ (List.Mem.head _)))))) | exact List.Mem.tail _ (List.Mem.tail _ (List.Mem.tail _ (List.Mem.tail _ (List.Mem.tail _ (List.Mem.tail _ (List.Mem.tail _ (List.Mem.head _))))))) | exact List.Mem.tail _ (List.Mem.tail _ (List.Mem.tail _ (List.Mem.tail _ (List.Mem.tail _ (List.Mem.tail _ (List.Mem.tail _ (List.Mem.tail _ (List.Mem.head _)))))))) | exact List.Mem.tail _ (List.Mem.tail _ (List.Mem.tail _ (List.Mem.tail _ (List.Mem.tail _ (List.Mem.tail _ (List.Mem.tail _ (List.Mem.tail _ (List.Mem.tail _ (List.Mem.head _))))))))) | exact List.Mem.tail _ (List.Mem.tail _ (List.Mem.tail _ (List.Mem.tail _ (List.Mem.tail _ (List.Mem.tail _ (List.Mem.tail _ (List.Mem.tail _ (List.Mem.tail _ (List.Mem.tail _ (List.Mem.head _)))))))))) | exact List.Mem.tail _ (List.Mem.tail _ (List.Mem.tail _ (List.Mem.tail _ (List.Mem.tail _ (List.Mem.tail _ (List.Mem.tail _ (List.Mem.tail _ (List.Mem.tail _ (List.Mem.tail _ (List.Mem.tail _ (List.Mem.head _))))))))))))) (by rw [List.getElem?_map, List.getElem?_eq_getElem hw]; rfl)
  refine ⟨_, rfl, _, _, _, hT2'.ldA (by first | exact List.Mem.head _ | exact List.Mem.tail _ (List.Mem.head _) | exact List.Mem.tail _ (List.Mem.tail _ (List.Mem.head _)) | exact List.Mem.tail _ (List.Mem.tail _ (List.Mem.tail _ (List.Mem.head _))) | exact List.Mem.tail _ (List.Mem.tail _ (List.Mem.tail _ (List.Mem.tail _ (List.Mem.head _)))) | exact List.Mem.tail _ (List.Mem.tail _ (List.Mem.tail _ (List.Mem.tail _ (List.Mem.tail _ (List.Mem.head _))))) | exact List.Mem.tail _ (List.Mem.tail _ (List.Mem.tail _ (List.Mem.tail _ (List.Mem.tail _ (List.Mem.tail _ (List.Mem.head _)))))) | exact List.Mem.tail _ (List.Mem.tail _ (List.Mem.tail _ (List.Mem.tail _ (List.Mem.tail _ (List.Mem.tail _ (List.Mem.tail _ (List.Mem.head _))))))) | exact List.Mem.tail _ (List.Mem.tail _ (List.Mem.tail _ (List.Mem.tail _ (List.Mem.tail _ (List.Mem.tail _ (List.Mem.tail _ (List.Mem.tail _ (List.Mem.head _)))))))) | exact List.Mem.tail _ (List.Mem.tail _ (List.Mem.tail _ (List.Mem.tail _ (List.Mem.tail _ (List.Mem.tail _ (List.Mem.tail _ (List.Mem.tail _ (List.Mem.tail _ (List.Mem.head _))))))))) | exact List.Mem.tail _ (List.Mem.tail _ (List.Mem.tail _ (List.Mem.tail _ (List.Mem.tail _ (List.Mem.tail _ (List.Mem.tail _ (List.Mem.tail _ (List.Mem.tail _ (List.Mem.tail _ (List.Mem.head _)))))))))) | exact List.Mem.tail _ (List.Mem.tail _ (List.Mem.tail _ (List.Mem.tail _ (List.Mem.tail _ (List.Mem.tail _ (List.Mem.tail _ (List.Mem.tail _ (List.Mem.tail _ (List.Mem.tail _ (List.Mem.tail _ (List.Mem.head _)))))))))))) (by rw [hb]; rfl), _, rfl, by omega, by omega, _, _, _, hc, ?_⟩
  obtain ⟨g3, c3, w3, hr3, hT3⟩ := append_row (l := []) (l2 := (R.ws[i.toNat]).l) hT2' .head (List.mem_cons_of_mem _ List.mem_cons_self) (by decide) (by omega)
  refine ⟨_, _, _, w3, hr3, fun w => w.cell? (Addr.add ⟨R.p, 0, none⟩ 1) = some (.slice (ptr R.gw) R.ws.length R.cw), hT3.drew.ldA (by first | exact List.Mem.head _ | exact List.Mem.tail _ (List.Mem.head _) | exact List.Mem.tail _ (List.Mem.tail _ (List.Mem.head _)) | exact List.Mem.tail _ (List.Mem.tail _ (List.Mem.tail _ (List.Mem.head _))) | exact List.Mem.tail _ (List.Mem.tail _ (List.Mem.tail _ (List.Mem.tail _ (List.Mem.head _)))) | exact List.Mem.tail _ (List.Mem.tail _ (List.Mem.tail _ (List.Mem.tail _ (List.Mem.tail _ (List.Mem.head _))))) | exact List.Mem.tail _ (List.Mem.tail _ (List.Mem.tail _ (List.Mem.tail _ (List.Mem.tail _ (List.Mem.tail _ (List.Mem.head _)))))) | exact List.Mem.tail _ (List.Mem.tail _ (List.Mem.tail _ (List.Mem.tail _ (List.Mem.tail _ (List.Mem.tail _ (List.Mem.tail _ (List.Mem.head _))))))) | exact List.Mem.tail _ (List.Mem.tail _ (List.Mem.tail _ (List.Mem.tail _ (List.Mem.tail _ (List.Mem.tail _ (List.Mem.tail _ (List.Mem.tail _ (List.Mem.head _)))))))) | exact List.Mem.tail _ (List.Mem.tail _ (List.Mem.tail _ (List.Mem.tail _ (List.Mem.tail _ (List.Mem.tail _ (List.Mem.tail _ (List.Mem.tail _ (List.Mem.tail _ (List.Mem.head _))))))))) | exact List.Mem.tail _ (List.Mem.tail _ (List.Mem.tail _ (List.Mem.tail _ (List.Mem.tail _ (List.Mem.tail _ (List.Mem.tail _ (List.Mem.tail _ (List.Mem.tail _ (List.Mem.tail _ (List.Mem.head _)))))))))) | exact List.Mem.tail _ (List.Mem.tail _ (List.Mem.tail _ (List.Mem.tail _ (List.Mem.tail _ (List.Mem.tail _ (List.Mem.tail _ (List.Mem.tail _ (List.Mem.tail _ (List.Mem.tail _ (List.Mem.tail _ (List.Mem.head _)))))))))))) rfl, _, rfl, _, _, _, fun w hw => hw, ?_⟩
  refine Alloc.t hT3.drew fun k35 w4 hT4 => ⟨hT4.ldA (by first | exact List.Mem.head _ | exact List.Mem.tail _ (List.Mem.head _) | exact List.Mem.tail _ (List.Mem.tail _ (List.Mem.head _)) | exact List.Mem.tail _ (List.Mem.tail _ (List.Mem.tail _ (List.Mem.head _))) | exact List.Mem.tail _ (List.Mem.tail _ (List.Mem.tail _ (List.Mem.tail _ (List.Mem.head _)))) | exact List.Mem.tail _ (List.Mem.tail _ (List.Mem.tail _ (List.Mem.tail _ (List.Mem.tail _ (List.Mem.head _))))) | exact List.Mem.tail _ (List.Mem.tail _ (List.Mem.tail _ (List.Mem.tail _ (List.Mem.tail _ (List.Mem.tail _ (List.Mem.head _)))))) | exact List.Mem.tail _ (List.Mem.tail _ (List.Mem.tail _ (List.Mem.tail _ (List.Mem.tail _ (List.Mem.tail _ (List.Mem.tail _ (List.Mem.head _))))))) | exact List.Mem.tail _ (List.Mem.tail _ (List.Mem.tail _ (List.Mem.tail _ (List.Mem.tail _ (List.Mem.tail _ (List.Mem.tail _ (List.Mem.tail _ (List.Mem.head _)))))))) | exact List.Mem.tail _ (List.Mem.tail _ (List.Mem.tail _ (List.Mem.tail _ (List.Mem.tail _ (List.Mem.tail _ (List.Mem.tail _ (List.Mem.tail _ (List.Mem.tail _ (List.Mem.head _))))))))) | exact List.Mem.tail _ (List.Mem.tail _ (List.Mem.tail _ (List.Mem.tail _ (List.Mem.tail _ (List.Mem.tail _ (List.Mem.tail _ (List.Mem.tail _ (List.Mem.tail _ (List.Mem.tail _ (List.Mem.head _)))))))))) | exact List.Mem.tail _ (List.Mem.tail _ (List.Mem.tail _ (List.Mem.tail _ (List.Mem.tail _ (List.Mem.tail _ (List.Mem.tail _ (List.Mem.tail _ (List.Mem.tail _ (List.Mem.tail _ (List.Mem.tail _ (List.Mem.head _)))))))))))) rfl, ?_⟩
  have hT4' : T F w0 w4 (rowP 9 1 (some k35) 1 1 (([s] : List ByteArray).map .string) :: rowP 9 1 g3 (0 + (R.ws[i.toNat]).l.length) c3 (([] ++ (R.ws[i.toNat]).l).map .string) :: (R.ws[i.toNat]).row :: (hdr R ++ (rest ++ X))) := hT4.weak rfl fun g hg => ⟨rfl, Nat.le_refl _, by decide, #[.string s], hg, rfl, rfl⟩
  obtain ⟨g5, c5, w5, hr5, hT5⟩ := append_row (l := [] ++ (R.ws[i.toNat]).l) (l2 := [s]) (n := 0 + (R.ws[i.toNat]).l.length) (n2 := 1) (g2 := some k35) (cap2 := 1) hT4' (.tail .head) List.mem_cons_self (by omega) (by decide)
  refine ⟨_, _, _, w5, hr5, hT5.ldA (by first | exact List.Mem.head _ | exact List.Mem.tail _ (List.Mem.head _) | exact List.Mem.tail _ (List.Mem.tail _ (List.Mem.head _)) | exact List.Mem.tail _ (List.Mem.tail _ (List.Mem.tail _ (List.Mem.head _))) | exact List.Mem.tail _ (List.Mem.tail _ (List.Mem.tail _ (List.Mem.tail _ (List.Mem.head _)))) | exact List.Mem.tail _ (List.Mem.tail _ (List.Mem.tail _ (List.Mem.tail _ (List.Mem.tail _ (List.Mem.head _))))) | exact List.Mem.tail _ (List.Mem.tail _ (List.Mem.tail _ (List.Mem.tail _ (List.Mem.tail _ (List.Mem.tail _ (List.Mem.head _)))))) | exact List.Mem.tail _ (List.Mem.tail _ (List.Mem.tail _ (List.Mem.tail _ (List.Mem.tail _ (List.Mem.tail _ (List.Mem.tail _ (List.Mem.head _))))))) | exact List.Mem.tail _ (List.Mem.tail _ (List.Mem.tail _ (List.Mem.tail _ (List.Mem.tail _ (List.Mem.tail _ (List.Mem.tail _ (List.Mem.tail _ (List.Mem.head _)))))))) | exact List.Mem.tail _ (List.Mem.tail _ (List.Mem.tail _ (List.Mem.tail _ (List.Mem.tail _ (List.Mem.tail _ (List.Mem.tail _ (List.Mem.tail _ (List.Mem.tail _ (List.Mem.head _))))))))) | exact List.Mem.tail _ (List.Mem.tail _ (List.Mem.tail _ (List.Mem.tail _ (List.Mem.tail _ (List.Mem.tail _ (List.Mem.tail _ (List.Mem.tail _ (List.Mem.tail _ (List.Mem.tail _ (List.Mem.head _)))))))))) | exact List.Mem.tail _ (List.Mem.tail _ (List.Mem.tail _ (List.Mem.tail _ (List.Mem.tail _ (List.Mem.tail _ (List.Mem.tail _ (List.Mem.tail _ (List.Mem.tail _ (List.Mem.tail _ (List.Mem.tail _ (List.Mem.head _)))))))))))) rfl, _, (by rw [hb]; rfl), by omega, by omega, ?_⟩
  have hrow : rowP 22 1 R.gw R.ws.length R.cw (R.ws.map RW.val) = rowP 22 1 (some b) R.ws.length R.cw (R.ws.map RW.val) := by rw [hb]
  have hT6 := T.drop (hT5.swap (List.Perm.swap _ _ _))
  have hT7 := T.drop (hT6.swap (List.Perm.swap _ _ _))
  simp only [List.nil_append, Nat.zero_add] at hT7 ⊢
  have hT8 : T F w0 w5 ((hdr R).take 2 ++ rowP 22 1 (some b) R.ws.length R.cw (R.ws.map RW.val) :: rowP 4 1 R.gp R.sp.length R.cp (R.sp.map .bool) :: rowP 9 1 g5 ((R.ws[i.toNat]).l.length + 1) c5 (((R.ws[i.toNat]).l ++ [s]).map .string) :: (rest ++ X)) := by
    rw [← hrow]
    refine hT7.swap ?_
    exact (List.perm_middle (l₁ := hdr R)).symm
  refine StRow1.t hT8 (.tail (.tail .head)) (by rw [List.length_map]; exact hw) rfl fun w6 hT9 => ?_
  obtain ⟨b2, hb2, hc2⟩ := T.row1 (i := i.toNat) (v := .bool R.sp[i.toNat]) hT9 (show rowP 4 1 R.gp R.sp.length R.cp (R.sp.map .bool) ∈ _ from (by first | exact List.Mem.head _ | exact List.Mem.tail _ (List.Mem.head _) | exact List.Mem.tail _ (List.Mem.tail _ (List.Mem.head _)) | exact List.Mem.tail _ (List.Mem.tail _ (List.Mem.tail _ (List.Mem.head _))) | exact List.Mem.tail _ (List.Mem.tail _ (List.Mem.tail _ (List.Mem.tail _ (List.Mem.head _)))) | exact List.Mem.tail _ (List.Mem.tail _ (List.Mem.tail _ (List.Mem.tail _ (List.Mem.tail _ (List.Mem.head _))))) | exact List.Mem.tail _ (List.Mem.tail _ (List.Mem.tail _ (List.Mem.tail _ (List.Mem.tail _ (List.Mem.tail _ (List.Mem.head _)))))) | exact List.Mem.tail _ (List.Mem.tail _ (List.Mem.tail _ (List.Mem.tail _ (List.Mem.tail _ (List.Mem.tail _ (List.Mem.tail _ (List.Mem.head _))))))) | exact List.Mem.tail _ (List.Mem.tail _ (List.Mem.tail _ (List.Mem.tail _ (List.Mem.tail _ (List.Mem.tail _ (List.Mem.tail _ (List.Mem.tail _ (List.Mem.head _)))))))) | exact List.Mem.tail _ (List.Mem.tail _ (List.Mem.tail _ (List.Mem.tail _ (List.Mem.tail _ (List.Mem.tail _ (List.Mem.tail _ (List.Mem.tail _ (List.Mem.tail _ (List.Mem.head _))))))))) | exact List.Mem.tail _ (List.Mem.tail _ (List.Mem.tail _ (List.Mem.tail _ (List.Mem.tail _ (List.Mem.tail _ (List.Mem.tail _ (List.Mem.tail _ (List.Mem.tail _ (List.Mem.tail _ (List.Mem.head _)))))))))) | exact List.Mem.tail _ (List.Mem.tail _ (List.Mem.tail _ (List.Mem.tail _ (List.Mem.tail _ (List.Mem.tail _ (List.Mem.tail _ (List.Mem.tail _ (List.Mem.tail _ (List.Mem.tail _ (List.Mem.tail _ (List.Mem.head _))))))))))))) (by rw [List.getElem?_map, List.getElem?_eq_getElem hp]; rfl)
  rw [hb2] at hT9
  refine ⟨_, rfl, _, _, _, hT9.ldA (by first | exact List.Mem.head _ | exact List.Mem.tail _ (List.Mem.head _) | exact List.Mem.tail _ (List.Mem.tail _ (List.Mem.head _)) | exact List.Mem.tail _ (List.Mem.tail _ (List.Mem.tail _ (List.Mem.head _))) | exact List.Mem.tail _ (List.Mem.tail _ (List.Mem.tail _ (List.Mem.tail _ (List.Mem.head _)))) | exact List.Mem.tail _ (List.Mem.tail _ (List.Mem.tail _ (List.Mem.tail _ (List.Mem.tail _ (List.Mem.head _))))) | exact List.Mem.tail _ (List.Mem.tail _ (List.Mem.tail _ (List.Mem.tail _ (List.Mem.tail _ (List.Mem.tail _ (List.Mem.head _)))))) | exact List.Mem.tail _ (List.Mem.tail _ (List.Mem.tail _ (List.Mem.tail _ (List.Mem.tail _ (List.Mem.tail _ (List.Mem.tail _ (List.Mem.head _))))))) | exact List.Mem.tail _ (List.Mem.tail _ (List.Mem.tail _ (List.Mem.tail _ (List.Mem.tail _ (List.Mem.tail _ (List.Mem.tail _ (List.Mem.tail _ (List.Mem.head _)))))))) | exact List.Mem.tail _ (List.Mem.tail _ (List.Mem.tail _ (List.Mem.tail _ (List.Mem.tail _ (List.Mem.tail _ (List.Mem.tail _ (List.Mem.tail _ (List.Mem.tail _ (List.Mem.head _))))))))) | exact List.Mem.tail _ (List.Mem.tail _ (List.Mem.tail _ (List.Mem.tail _ (List.Mem.tail _ (List.Mem.tail _ (List.Mem.tail _ (List.Mem.tail _ (List.Mem.tail _ (List.Mem.tail _ (List.Mem.head _)))))))))) | exact List.Mem.tail _ (List.Mem.tail _ (List.Mem.tail _ (List.Mem.tail _ (List.Mem.tail _ (List.Mem.tail _ (List.Mem.tail _ (List.Mem.tail _ (List.Mem.tail _ (List.Mem.tail _ (List.Mem.tail _ (List.Mem.head _)))))))))))) rfl, _, rfl, by omega, by omega, ?_⟩
  refine StRow1.t hT9 (.tail (.tail (.tail .head))) (by rw [List.length_map]; exact hp) rfl fun w7 hT10 => ?_
  have hT11 : T F w0 w7 (refL { R with ws := R.ws.set i.toNat ⟨g5, c5, (R.ws[i.toNat]).l ++ [s]⟩, sp := R.sp.set i.toNat false } ++ X) := by
    have hk : hdr { R with ws := R.ws.set i.toNat ⟨g5, c5, (R.ws[i.toNat]).l ++ [s]⟩, sp := R.sp.set i.toNat false } = [blk R.p #[.slice (ptr R.gs) R.safe.length R.cs, .slice (ptr R.gw) R.ws.length R.cw, .slice (ptr (some b2)) R.sp.length R.cp, .bool R.gone, .bool R.cut, .int .i64 R.left] 48,
        rowP 9 1 R.gs R.safe.length R.cs (R.safe.map .string), rowP 22 1 (some b) R.ws.length R.cw ((R.ws.map RW.val).set i.toNat (.slice (ptr g5) ((R.ws[i.toNat]).l.length + 1) c5)), rowP 4 1 (some b2) R.sp.length R.cp ((R.sp.map .bool).set i.toNat (.bool false))] := by
      rw [← hb, ← hb2]
      simp only [hdr, List.length_set, List.map_set, RW.val, List.length_append, List.length_singleton]
    unfold refL
    rw [hk]
    refine hT10.swap ?_
    have hj := ws_join hw ⟨g5, c5, (R.ws[i.toNat]).l ++ [s]⟩
    have e1 : RW.row ⟨g5, c5, (R.ws[i.toNat]).l ++ [s]⟩ = rowP 9 1 g5 ((R.ws[i.toNat]).l.length + 1) c5 (((R.ws[i.toNat]).l ++ [s]).map .string) := by simp [RW.row]
    rw [e1, hrest] at hj
    have h1 := ((hj.append_right X).append_left [blk R.p #[.slice (ptr R.gs) R.safe.length R.cs, .slice (ptr R.gw) R.ws.length R.cw, .slice (ptr (some b2)) R.sp.length R.cp, .bool R.gone, .bool R.cut, .int .i64 R.left] 48,
        rowP 9 1 R.gs R.safe.length R.cs (R.safe.map .string), rowP 22 1 (some b) R.ws.length R.cw ((R.ws.map RW.val).set i.toNat (.slice (ptr g5) ((R.ws[i.toNat]).l.length + 1) c5)), rowP 4 1 (some b2) R.sp.length R.cp ((R.sp.map .bool).set i.toNat (.bool false))])
    rw [List.append_assoc]
    refine List.Perm.trans ?_ h1
    exact perm4a _ _ _ _ _
  have hu := ruse_r hT11
  refine hu.mono fun e w8 ⟨he, hT12⟩ => ⟨he, by rw [hz], { R with ws := R.ws.set i.toNat ⟨g5, c5, (R.ws[i.toNat]).l ++ [s]⟩, sp := R.sp.set i.toNat false, left := if R.cut then IntKind.i64.wrap (R.left - 1) else R.left }, rfl, ?_, hT12⟩
  rw [AD.write_of hz]
  refine ⟨hA.n1, hA.safe, by show (R.ws.set _ _).length = _; rw [List.length_set, hA.wl], fun j e he => ?_, by show (R.sp.set _ _).length = _; rw [List.length_set, hA.pl], fun j b he => ?_, hA.dead, hA.left (AD.may_on hm).1⟩
  · have h2 : (R.ws.set i.toNat ⟨g5, c5, (R.ws[i.toNat]).l ++ [s]⟩)[j]? = some e := he
    show e.l = if j = i.toNat then a.pend j ++ [s] else a.pend j
    by_cases hj : j = i.toNat
    · subst hj
      rw [List.getElem?_set_self hw] at h2
      rw [if_pos rfl, ← hws]
      exact (congrArg RW.l (Option.some.inj h2)).symm
    · rw [List.getElem?_set_ne (fun h => hj h.symm)] at h2
      rw [if_neg hj]
      exact hA.ws j e h2
  · have h2 : (R.sp.set i.toNat false)[j]? = some b := he
    show b = if j = i.toNat then false else a.spoilt j
    by_cases hj : j = i.toNat
    · subst hj
      rw [List.getElem?_set_self hp] at h2
      rw [if_pos rfl]
      exact (Option.some.inj h2).symm
    · rw [List.getElem?_set_ne (fun h => hj h.symm)] at h2
      rw [if_neg hj]
      exact hA.sp j b h2
end Go.Proofs.Ytdppllkjibfjcaa
