import Derived.Laws.Slices
import Derived.Test.YtmipjkalfodcpaaGreatDoorM3
import Derived.Test.YtmipjkalfodcpaaGreatDoorM4
import Derived.Test.YtmipjkalfodcpaaGreatDoorM8
section
/-! the reference's drive: what turns. -/
namespace Go.Proofs.YtmipjkalfodcpaaGreatDoor
open Go.Sh Go.Maps Go.RowKit
set_option linter.unusedVariables false
set_option maxHeartbeats 1000000
set_option maxRecDepth 20000
theorem append_none {P : Program} {w : World} {t ty e : TypeId} {i : TypeInfo} (cs : Array Bool) (ht : P.underlying t = some (.slice e)) (hi : P.info? e = some i) {g : Option Addr} {n cap : Nat} (hn : n ≤ cap) :
    (builtin .append #[t, t] ty cs #[.slice g n cap, .slice none 0 0]).run P w = .ok (.value (.slice g n cap)) w := by
  cases g <;> simp [builtin, Builtin.append_, run_underlying ht, sizeOf, typeInfo, program, Sem.run, hi, Builtin.lenOf, Builtin.firstCells, loadCells, hn, storeCells, Result.andThen]
/-- all of a row's texts behind another one's -/
theorem append_row {F : List Nat} {w0 w : World} {Γ Δ : List A} {g g2 : Option Nat} {n cap n2 cap2 : Nat} {l l2 : List ByteArray} (hT : T F w0 w Γ) (hk : Pick (rowP 9 1 g n cap (l.map .string)) Γ Δ) (hm : rowP 9 1 g2 n2 cap2 (l2.map .string) ∈ Γ) (hn : n ≤ 1000000) (hn2 : n2 ≤ 1000000) :
    ∃ g' cap' w', (builtin .append #[42, 42] 42 #[false, false] #[.slice (ptr g) n cap, .slice (ptr g2) n2 cap2]).run Tryz.prog w = .ok (.value (.slice (ptr g') (n + n2) cap')) w' ∧ T F w0 w' (rowP 9 1 g' (n + n2) cap' ((l ++ l2).map .string) :: Δ) := by
  have h1 := hT.says hm
  have hl2 := rowP.len h1
  cases g2 with
  | none =>
    have h2 : cap2 = 0 := h1.2.2.2
    have h3 : n2 ≤ cap2 := h1.2.1
    obtain rfl : n2 = 0 := by omega
    subst h2
    have : l2 = [] := by
      have : (l2.map Value.string).length = 0 := by simpa using hl2
      simpa using this
    subst this
    have h4 := (hT.pick hk).says List.mem_cons_self
    refine ⟨g, cap, w, append_none (e := 9) _ (by kernel_rfl) (i := Tryz.t9) (by kernel_rfl) h4.2.1, ?_⟩
    rw [List.append_nil]
    exact hT.pick hk
  | some b =>
    have hnews : ∀ j u, (l2.map Value.string)[j]? = some u → w.cell? (Addr.add ⟨b, 0, none⟩ j) = some u := fun j u hu => by
      rw [addr_add, Nat.zero_add]; exact rowP.cell h1 hu
    have hby : Tryz.t9.bytes = 16 := by kernel_rfl
    obtain ⟨g', cap', w', hr, hT'⟩ := append_t (P := Tryz.prog) (t := 42) (ty := 42) (e := 9) (i := Tryz.t9) (z := .string (ByteArray.mk #[])) (size := 1) #[false, false] (by kernel_rfl) (by kernel_rfl) (by kernel_rfl) (by kernel_rfl) (by kernel_rfl)
      hT hk (a := ⟨b, 0, none⟩) (m := n2) (c := cap2) (news := l2.map .string) hl2 hnews (fun u hu => by obtain ⟨x, _, rfl⟩ := List.mem_map.1 hu; rfl) (by simp only [maxLen]; omega) (by rw [hby]; omega)
    refine ⟨g', cap', w', hr, ?_⟩
    rw [List.map_append]
    exact hT'
theorem ws_split {ws : List RW} {i : Nat} (hi : i < ws.length) : (ws.map RW.row).Perm (ws[i].row :: (ws.take i ++ ws.drop (i + 1)).map RW.row) := by
  have e : ws = ws.take i ++ ws[i] :: ws.drop (i + 1) := by rw [List.getElem_cons_drop, List.take_append_drop]
  conv => lhs; rw [e]
  rw [List.map_append, List.map_cons, List.map_append]
  exact List.perm_middle
theorem ws_join {ws : List RW} {i : Nat} (hi : i < ws.length) (x : RW) : (x.row :: (ws.take i ++ ws.drop (i + 1)).map RW.row).Perm ((ws.set i x).map RW.row) := by
  rw [List.set_eq_take_append_cons_drop, if_pos hi, List.map_append, List.map_append, List.map_cons]
  exact List.perm_middle.symm
theorem nil_row {F : List Nat} {w0 w : World} {Γ : List A} (h : T F w0 w Γ) : T F w0 w (RW.row ⟨none, 0, []⟩ :: Γ) := h.nilRow 9 1
/-- the reference uses power that it counts -/
theorem ruse_r {R : RL} {F : List Nat} {w0 w : World} {X : List A} (hT : T F w0 w (refL R ++ X)) : Calls Tryz.prog 31 #[.pointer (some ⟨R.p, 0, none⟩)] w fun e w' => e = .returned (.tuple #[]) ∧ T F w0 w' (refL { R with left := if R.cut then IntKind.i64.wrap (R.left - 1) else R.left } ++ X) := by
  refine (revetmentref04_Drive_use_calls (R := fun v w' => v = .tuple #[] ∧ T F w0 w' (refL { R with left := if R.cut then IntKind.i64.wrap (R.left - 1) else R.left } ++ X)) ?_).mono fun e w' ⟨v, he, hv, ht⟩ => ⟨hv ▸ he, ht⟩
  unfold revetmentref04_Drive_use
  refine ⟨_, rfl, _, hT.ldA (by repeat (first | exact List.Mem.head _ | refine List.Mem.tail _ ?_)) rfl, fun hc => ⟨_, rfl, _, hT.ldA (by repeat (first | exact List.Mem.head _ | refine List.Mem.tail _ ?_)) rfl, _, rfl, ?_⟩, fun hc => ?_⟩
  · refine St.tA hT .head (by simp) (by rfl) rfl fun w2 h2 => ⟨rfl, ?_⟩
    have h3 : T F w0 w2 (refL { R with left := IntKind.i64.wrap (R.left - 1) } ++ X) := h2
    rw [if_pos hc]; exact h3
  · refine ⟨rfl, ?_⟩
    rw [if_neg (by rw [hc]; simp)]; exact hT
theorem RAbs.left {R : RL} {a : AD} (h : RAbs R a) (ho : a.off = false) : match (a.power.map (fun n : Nat => n - 1) : Option Nat) with
    | none => R.cut = false
    | some n => R.cut = true ∧ (if R.cut then IntKind.i64.wrap (R.left - 1) else R.left) = (n : Int) ∧ n ≤ 9223372036854775807 := by
  have hp := h.power
  cases ha : a.power with
  | none => rw [ha] at hp; exact hp
  | some n =>
    rw [ha] at hp
    have hn : n ≠ 0 := by
      intro e
      subst e
      unfold AD.off at ho
      rw [ha] at ho
      simp at ho
    simp only [Option.map_some] at hp ⊢
    refine ⟨hp.1, ?_, by omega⟩
    rw [hp.1, if_pos rfl, hp.2.1, wrap64 _ (by omega) (by omega)]
    omega
theorem perm4a {α : Type} (x y b s : α) (l : List α) : (x :: y :: b :: s :: l).Perm (b :: s :: y :: x :: l) := by
  have h1 : (x :: y :: b :: s :: l).Perm (y :: x :: b :: s :: l) := .swap _ _ _
  have h2 : (y :: x :: b :: s :: l).Perm ([b, s] ++ y :: x :: l) := (List.perm_append_comm (l₁ := [y, x]) (l₂ := [b, s])).append_right l
  exact h1.trans h2
theorem rwrite_r {p : Nat} {a : AD} {F : List Nat} {w0 w : World} {X : List A} (h : Rf p a F w0 w X) (hF : a.Few 999999) (i : Int) (s : ByteArray) :
    Calls Tryz.prog 11 #[.pointer (some ⟨p, 0, none⟩), .int .i64 i, .string s] w fun e w' => e = .returned (.int .i64 (a.put i s)) ∧ Rf p (a.write i s) F w0 w' X := by
  have h0 := h
  obtain ⟨R, rfl, hA, hT⟩ := h
  refine (revetmentref04_Drive_Write_calls (R := fun v w' => v = .int .i64 (a.put i s) ∧ Rf R.p (a.write i s) F w0 w' X) ?_).mono fun e w' ⟨v, he, hv, ht⟩ => ⟨hv ▸ he, ht⟩
  unfold revetmentref04_Drive_Write
  have fail : ∀ n, a.put i s = n → n ≠ 0 → ∀ w1, Ext w w1 → Value.int .i64 n = .int .i64 (a.put i s) ∧ Rf R.p (a.write i s) F w0 w1 X := fun n hn h1 w1 hx => by
    refine ⟨by rw [hn], ?_⟩
    unfold AD.write
    rw [if_pos (by rw [hn]; exact h1)]
    exact h0.quiet hx
  refine (rmay_r h0 i).mono fun e w1 ⟨he, hx⟩ => ⟨_, he, bne_t fun hm => fail _ (by unfold AD.put; rw [if_pos hm]) hm _ hx, bne_f fun hm => ⟨bne_t fun hs => fail 1 (by unfold AD.put; rw [if_neg (by simpa using hm), if_pos (by omega)]) (by decide) _ hx, bne_f fun hs => ?_⟩⟩
  have hs64 : s.size = 64 := by omega
  have hz : a.put i s = 0 := by unfold AD.put; rw [if_neg (by simpa using hm), if_neg (by omega)]
  have hi := AD.may_zero hm
  have hw : i.toNat < R.ws.length := by rw [hA.wl]; omega
  have hp : i.toNat < R.sp.length := by rw [hA.pl]; omega
  have hws := hA.ws i.toNat _ (List.getElem?_eq_getElem hw)
  have hfl : (R.ws[i.toNat]).l.length ≤ 999999 := by rw [hws]; exact hF _
  have hT1 := hT.quiet hx
  have hTx : T F w0 w1 ((R.ws[i.toNat]).row :: (hdr R ++ ((R.ws.take i.toNat ++ R.ws.drop (i.toNat + 1)).map RW.row ++ X))) := by
    refine hT1.swap ?_
    have h1 : (refL R ++ X).Perm (hdr R ++ ((R.ws[i.toNat]).row :: (R.ws.take i.toNat ++ R.ws.drop (i.toNat + 1)).map RW.row) ++ X) := by
      unfold refL
      exact ((ws_split hw).append_left (hdr R)).append_right X
    refine h1.trans ?_
    rw [List.append_assoc, List.cons_append]
    exact List.perm_middle
  generalize hrest : (R.ws.take i.toNat ++ R.ws.drop (i.toNat + 1)).map RW.row = rest at hTx
  refine Alloc.t hTx fun k18 w2 hT2 => ?_
  have hT2' : T F w0 w2 (rowP 9 1 (some k18) 0 0 (([] : List ByteArray).map .string) :: (R.ws[i.toNat]).row :: (hdr R ++ (rest ++ X))) := hT2.weak rfl fun g hg => ⟨rfl, Nat.le_refl _, by decide, #[], hg, rfl, rfl⟩
  obtain ⟨b, hb, hc⟩ := T.row1 (i := i.toNat) (v := (R.ws[i.toNat]).val) hT2' (show rowP 42 1 R.gw R.ws.length R.cw (R.ws.map RW.val) ∈ _ from (by repeat (first | exact List.Mem.head _ | refine List.Mem.tail _ ?_))) (by rw [List.getElem?_map, List.getElem?_eq_getElem hw]; rfl)
  refine ⟨_, rfl, _, _, _, hT2'.ldA (by repeat (first | exact List.Mem.head _ | refine List.Mem.tail _ ?_)) (by rw [hb]; rfl), _, rfl, by omega, by omega, _, _, _, hc, ?_⟩
  obtain ⟨g3, c3, w3, hr3, hT3⟩ := append_row (l := []) (l2 := (R.ws[i.toNat]).l) hT2' .head (List.mem_cons_of_mem _ List.mem_cons_self) (by decide) (by omega)
  refine ⟨_, _, _, w3, hr3, fun w => w.cell? (Addr.add ⟨R.p, 0, none⟩ 1) = some (.slice (ptr R.gw) R.ws.length R.cw), hT3.drew.ldA (by repeat (first | exact List.Mem.head _ | refine List.Mem.tail _ ?_)) rfl, _, rfl, _, _, _, fun w hw => hw, ?_⟩
  refine Alloc.t hT3.drew fun k35 w4 hT4 => ⟨hT4.ldA (by repeat (first | exact List.Mem.head _ | refine List.Mem.tail _ ?_)) rfl, ?_⟩
  have hT4' : T F w0 w4 (rowP 9 1 (some k35) 1 1 (([s] : List ByteArray).map .string) :: rowP 9 1 g3 (0 + (R.ws[i.toNat]).l.length) c3 (([] ++ (R.ws[i.toNat]).l).map .string) :: (R.ws[i.toNat]).row :: (hdr R ++ (rest ++ X))) := hT4.weak rfl fun g hg => ⟨rfl, Nat.le_refl _, by decide, #[.string s], hg, rfl, rfl⟩
  obtain ⟨g5, c5, w5, hr5, hT5⟩ := append_row (l := [] ++ (R.ws[i.toNat]).l) (l2 := [s]) (n := 0 + (R.ws[i.toNat]).l.length) (n2 := 1) (g2 := some k35) (cap2 := 1) hT4' (.tail .head) List.mem_cons_self (by omega) (by decide)
  refine ⟨_, _, _, w5, hr5, hT5.ldA (by repeat (first | exact List.Mem.head _ | refine List.Mem.tail _ ?_)) rfl, _, (by rw [hb]; rfl), by omega, by omega, ?_⟩
  have hrow : rowP 42 1 R.gw R.ws.length R.cw (R.ws.map RW.val) = rowP 42 1 (some b) R.ws.length R.cw (R.ws.map RW.val) := by rw [hb]
  have hT6 := T.drop (hT5.swap (List.Perm.swap _ _ _))
  have hT7 := T.drop (hT6.swap (List.Perm.swap _ _ _))
  simp only [List.nil_append, Nat.zero_add] at hT7 ⊢
  have hT8 : T F w0 w5 ((hdr R).take 2 ++ rowP 42 1 (some b) R.ws.length R.cw (R.ws.map RW.val) :: rowP 4 1 R.gp R.sp.length R.cp (R.sp.map .bool) :: rowP 9 1 g5 ((R.ws[i.toNat]).l.length + 1) c5 (((R.ws[i.toNat]).l ++ [s]).map .string) :: (rest ++ X)) := by
    rw [← hrow]
    refine hT7.swap ?_
    exact (List.perm_middle (l₁ := hdr R)).symm
  refine StRow1.t hT8 (.tail (.tail .head)) (by rw [List.length_map]; exact hw) rfl fun w6 hT9 => ?_
  obtain ⟨b2, hb2, hc2⟩ := T.row1 (i := i.toNat) (v := .bool R.sp[i.toNat]) hT9 (show rowP 4 1 R.gp R.sp.length R.cp (R.sp.map .bool) ∈ _ from (by repeat (first | exact List.Mem.head _ | refine List.Mem.tail _ ?_))) (by rw [List.getElem?_map, List.getElem?_eq_getElem hp]; rfl)
  rw [hb2] at hT9
  refine ⟨_, rfl, _, _, _, hT9.ldA (by repeat (first | exact List.Mem.head _ | refine List.Mem.tail _ ?_)) rfl, _, rfl, by omega, by omega, ?_⟩
  refine StRow1.t hT9 (.tail (.tail (.tail .head))) (by rw [List.length_map]; exact hp) rfl fun w7 hT10 => ?_
  have hT11 : T F w0 w7 (refL { R with ws := R.ws.set i.toNat ⟨g5, c5, (R.ws[i.toNat]).l ++ [s]⟩, sp := R.sp.set i.toNat false } ++ X) := by
    have hk : hdr { R with ws := R.ws.set i.toNat ⟨g5, c5, (R.ws[i.toNat]).l ++ [s]⟩, sp := R.sp.set i.toNat false } = [blk R.p #[.slice (ptr R.gs) R.safe.length R.cs, .slice (ptr R.gw) R.ws.length R.cw, .slice (ptr (some b2)) R.sp.length R.cp, .bool R.gone, .bool R.cut, .int .i64 R.left] 46,
        rowP 9 1 R.gs R.safe.length R.cs (R.safe.map .string), rowP 42 1 (some b) R.ws.length R.cw ((R.ws.map RW.val).set i.toNat (.slice (ptr g5) ((R.ws[i.toNat]).l.length + 1) c5)), rowP 4 1 (some b2) R.sp.length R.cp ((R.sp.map .bool).set i.toNat (.bool false))] := by
      rw [← hb, ← hb2]
      simp only [hdr, List.length_set, List.map_set, RW.val, List.length_append, List.length_singleton]
    unfold refL
    rw [hk]
    refine hT10.swap ?_
    have hj := ws_join hw ⟨g5, c5, (R.ws[i.toNat]).l ++ [s]⟩
    have e1 : RW.row ⟨g5, c5, (R.ws[i.toNat]).l ++ [s]⟩ = rowP 9 1 g5 ((R.ws[i.toNat]).l.length + 1) c5 (((R.ws[i.toNat]).l ++ [s]).map .string) := by simp [RW.row]
    rw [e1, hrest] at hj
    have h1 := ((hj.append_right X).append_left [blk R.p #[.slice (ptr R.gs) R.safe.length R.cs, .slice (ptr R.gw) R.ws.length R.cw, .slice (ptr (some b2)) R.sp.length R.cp, .bool R.gone, .bool R.cut, .int .i64 R.left] 46,
        rowP 9 1 R.gs R.safe.length R.cs (R.safe.map .string), rowP 42 1 (some b) R.ws.length R.cw ((R.ws.map RW.val).set i.toNat (.slice (ptr g5) ((R.ws[i.toNat]).l.length + 1) c5)), rowP 4 1 (some b2) R.sp.length R.cp ((R.sp.map .bool).set i.toNat (.bool false))])
    rw [List.append_assoc]
    refine List.Perm.trans ?_ h1
    exact perm4a _ _ _ _ _
  have hu := ruse_r hT11
  refine hu.mono fun e w8 ⟨he, hT12⟩ => ⟨he, by rw [hz], { R with ws := R.ws.set i.toNat ⟨g5, c5, (R.ws[i.toNat]).l ++ [s]⟩, sp := R.sp.set i.toNat false, left := if R.cut then IntKind.i64.wrap (R.left - 1) else R.left }, rfl, ?_, hT12⟩
  rw [AD.write_of hz]
  refine ⟨hA.n1, hA.safe, by show (R.ws.set _ _).length = _; rw [List.length_set, hA.wl], fun j e he => ?_, by show (R.sp.set _ _).length = _; rw [List.length_set, hA.pl], fun j b he => ?_, hA.dead, hA.left (AD.may_on hm).1⟩
  · have h2 : (R.ws.set i.toNat ⟨g5, c5, (R.ws[i.toNat]).l ++ [s]⟩)[j]? = some e := he
    show e.l = if j = i.toNat then a.pend j ++ [s] else a.pend j
    by_cases hj : j = i.toNat
    · subst hj
      rw [List.getElem?_set_self hw] at h2
      rw [if_pos rfl, ← hws]
      exact (congrArg RW.l (Option.some.inj h2)).symm
    · rw [List.getElem?_set_ne (fun h => hj h.symm)] at h2
      rw [if_neg hj]
      exact hA.ws j e h2
  · have h2 : (R.sp.set i.toNat false)[j]? = some b := he
    show b = if j = i.toNat then false else a.spoilt j
    by_cases hj : j = i.toNat
    · subst hj
      rw [List.getElem?_set_self hp] at h2
      rw [if_pos rfl]
      exact (Option.some.inj h2).symm
    · rw [List.getElem?_set_ne (fun h => hj h.symm)] at h2
      rw [if_neg hj]
      exact hA.sp j b h2
end Go.Proofs.YtmipjkalfodcpaaGreatDoor
end
section
/-! the reference's drive: what turns, on. -/
namespace Go.Proofs.YtmipjkalfodcpaaGreatDoor
open Go.Sh Go.Maps Go.RowKit
set_option linter.unusedVariables false
set_option maxHeartbeats 1000000
set_option maxRecDepth 20000
theorem setSafe {R : RL} {F : List Nat} {w0 w : World} {X : List A} {i : Nat} {s : ByteArray} {K : World → Prop} (hT : T F w0 w (refL R ++ X)) (hi : i < R.safe.length) (hK : ∀ w', T F w0 w' (refL { R with safe := R.safe.set i s } ++ X) → K w') :
    ∃ b, R.gs = some b ∧ St (Addr.add ⟨b, 0, none⟩ (i * 1)) (.string s) w K := by
  obtain ⟨b, hb⟩ := rowP.pos (hT.says (show rowP 9 1 R.gs R.safe.length R.cs (R.safe.map .string) ∈ _ from (by repeat (first | exact List.Mem.head _ | refine List.Mem.tail _ ?_)))) (by omega)
  refine ⟨b, hb, ?_⟩
  have e0 : refL R = blk R.p #[.slice (ptr R.gs) R.safe.length R.cs, .slice (ptr R.gw) R.ws.length R.cw, .slice (ptr R.gp) R.sp.length R.cp, .bool R.gone, .bool R.cut, .int .i64 R.left] 46 :: rowP 9 1 (some b) R.safe.length R.cs (R.safe.map .string) :: ((hdr R).drop 2 ++ R.ws.map RW.row) := by rw [← hb]; rfl
  rw [e0] at hT
  refine StRow1.t hT (.tail .head) (by rw [List.length_map]; exact hi) rfl fun w' h => hK w' ?_
  have e1 : refL { R with safe := R.safe.set i s } = blk R.p #[.slice (ptr R.gs) R.safe.length R.cs, .slice (ptr R.gw) R.ws.length R.cw, .slice (ptr R.gp) R.sp.length R.cp, .bool R.gone, .bool R.cut, .int .i64 R.left] 46 :: rowP 9 1 (some b) R.safe.length R.cs ((R.safe.map .string).set i (.string s)) :: ((hdr R).drop 2 ++ R.ws.map RW.row) := by
    rw [← hb]; simp only [refL, hdr, List.length_set, List.map_set]; rfl
  rw [e1]
  exact h.swap (.swap _ _ _)
theorem setSp {R : RL} {F : List Nat} {w0 w : World} {X : List A} {i : Nat} {v : Bool} {K : World → Prop} (hT : T F w0 w (refL R ++ X)) (hi : i < R.sp.length) (hK : ∀ w', T F w0 w' (refL { R with sp := R.sp.set i v } ++ X) → K w') :
    ∃ b, R.gp = some b ∧ St (Addr.add ⟨b, 0, none⟩ (i * 1)) (.bool v) w K := by
  obtain ⟨b, hb⟩ := rowP.pos (hT.says (show rowP 4 1 R.gp R.sp.length R.cp (R.sp.map .bool) ∈ _ from (by repeat (first | exact List.Mem.head _ | refine List.Mem.tail _ ?_)))) (by omega)
  refine ⟨b, hb, ?_⟩
  have e0 : refL R = (hdr R).take 3 ++ rowP 4 1 (some b) R.sp.length R.cp (R.sp.map .bool) :: R.ws.map RW.row := by rw [← hb]; rfl
  rw [e0] at hT
  refine StRow1.t hT (.tail (.tail (.tail .head))) (by rw [List.length_map]; exact hi) rfl fun w' h => hK w' ?_
  have e1 : refL { R with sp := R.sp.set i v } = (hdr R).take 3 ++ rowP 4 1 (some b) R.sp.length R.cp ((R.sp.map .bool).set i (.bool v)) :: R.ws.map RW.row := by
    rw [← hb]; simp only [refL, hdr, List.length_set, List.map_set]; rfl
  rw [e1]
  refine h.swap ?_
  rw [List.append_assoc]
  exact (List.perm_middle (l₁ := (hdr R).take 3)).symm
theorem setNil {R : RL} {F : List Nat} {w0 w : World} {X : List A} {i : Nat} {K : World → Prop} (hT : T F w0 w (refL R ++ X)) (hi : i < R.ws.length) (hK : ∀ w', T F w0 w' (refL { R with ws := R.ws.set i ⟨none, 0, []⟩ } ++ X) → K w') :
    ∃ b, R.gw = some b ∧ St (Addr.add ⟨b, 0, none⟩ (i * 1)) (.slice none 0 0) w K := by
  obtain ⟨b, hb⟩ := rowP.pos (hT.says (show rowP 42 1 R.gw R.ws.length R.cw (R.ws.map RW.val) ∈ _ from (by repeat (first | exact List.Mem.head _ | refine List.Mem.tail _ ?_)))) (by omega)
  refine ⟨b, hb, ?_⟩
  have hj := ws_join hi ⟨none, 0, []⟩
  have hs := ws_split hi
  generalize hrest : (R.ws.take i ++ R.ws.drop (i + 1)).map RW.row = rest at hj hs
  have e0 : refL R = (hdr R).take 2 ++ rowP 42 1 (some b) R.ws.length R.cw (R.ws.map RW.val) :: rowP 4 1 R.gp R.sp.length R.cp (R.sp.map .bool) :: R.ws.map RW.row := by rw [← hb]; rfl
  rw [e0] at hT
  refine StRow1.t hT (.tail (.tail .head)) (by rw [List.length_map]; exact hi) rfl fun w' h => hK w' ?_
  have e1 : refL { R with ws := R.ws.set i ⟨none, 0, []⟩ } = (hdr R).take 2 ++ rowP 42 1 (some b) R.ws.length R.cw ((R.ws.map RW.val).set i (.slice none 0 0)) :: rowP 4 1 R.gp R.sp.length R.cp (R.sp.map .bool) :: (R.ws.set i ⟨none, 0, []⟩).map RW.row := by
    rw [← hb]; simp only [refL, hdr, List.length_set, List.map_set]; rfl
  rw [e1]
  have h2 : T F w0 w' ((R.ws[i]).row :: (rowP 42 1 (some b) R.ws.length R.cw ((R.ws.map RW.val).set i (.slice none 0 0)) :: ((hdr R).take 2 ++ rowP 4 1 R.gp R.sp.length R.cp (R.sp.map .bool) :: (rest ++ X)))) := by
    refine h.swap ?_
    have h3 : (R.ws.map RW.row ++ X).Perm ((R.ws[i]).row :: (rest ++ X)) := hs.append_right X
    have h4 := h3.append_left (rowP 42 1 (some b) R.ws.length R.cw ((R.ws.map RW.val).set i (.slice none 0 0)) :: ((hdr R).take 2 ++ [rowP 4 1 R.gp R.sp.length R.cp (R.sp.map .bool)]))
    exact h4.trans List.perm_middle
  have h5 := nil_row (T.drop h2)
  refine h5.swap ?_
  have h6 : ((RW.row ⟨none, 0, []⟩ :: rest) ++ X).Perm ((R.ws.set i ⟨none, 0, []⟩).map RW.row ++ X) := hj.append_right X
  have h7 := h6.append_left ((hdr R).take 2 ++ [rowP 42 1 (some b) R.ws.length R.cw ((R.ws.map RW.val).set i (.slice none 0 0)), rowP 4 1 R.gp R.sp.length R.cp (R.sp.map .bool)])
  refine List.Perm.trans ?_ h7
  have h8 : (RW.row ⟨none, 0, []⟩ :: (rowP 42 1 (some b) R.ws.length R.cw ((R.ws.map RW.val).set i (.slice none 0 0)) :: ((hdr R).take 2 ++ rowP 4 1 R.gp R.sp.length R.cp (R.sp.map .bool) :: (rest ++ X)))).Perm
      (RW.row ⟨none, 0, []⟩ :: ((hdr R).take 2 ++ [rowP 42 1 (some b) R.ws.length R.cw ((R.ws.map RW.val).set i (.slice none 0 0)), rowP 4 1 R.gp R.sp.length R.cp (R.sp.map .bool)] ++ (rest ++ X))) := by
    refine List.Perm.cons _ ?_
    rw [List.append_assoc]
    exact (List.perm_middle (l₁ := (hdr R).take 2)).symm
  exact h8.trans List.perm_middle.symm
/-- one sector is settled: n of its writes are kept -/
def keepA (a : AD) (i n : Nat) : AD := { a with safe := if 0 < n then a.safe.set i ((a.pend i).getD (n - 1) noB) else a.safe, pend := fun j => if j = i then [] else a.pend j }
theorem keep_abs {R : RL} {a : AD} (hA : RAbs R a) {i n : Nat} (hi : i < a.safe.length) {safe' : List ByteArray} (hs : safe' = if 0 < n then a.safe.set i ((a.pend i).getD (n - 1) noB) else a.safe) : RAbs { R with safe := safe', ws := R.ws.set i ⟨none, 0, []⟩ } (keepA a i n) := by
  have hl : (keepA a i n).safe.length = a.safe.length := by
    unfold keepA
    simp only
    split
    · rw [List.length_set]
    · rfl
  refine ⟨by rw [hl]; exact hA.n1, hs, ?_, fun j e he => ?_, by rw [hl]; exact hA.pl, hA.sp, hA.dead, hA.power⟩
  · show (R.ws.set i ⟨none, 0, []⟩).length = _
    rw [List.length_set, hl]; exact hA.wl
  · have h2 : (R.ws.set i ⟨none, 0, []⟩)[j]? = some e := he
    show e.l = if j = i then [] else a.pend j
    by_cases hj : j = i
    · subst hj
      rw [List.getElem?_set_self (by rw [hA.wl]; exact hi)] at h2
      rw [if_pos rfl]
      exact (congrArg RW.l (Option.some.inj h2)).symm
    · rw [List.getElem?_set_ne (fun h => hj h.symm)] at h2
      rw [if_neg hj]
      exact hA.ws j e h2
theorem rkeep_r {p : Nat} {a : AD} {F : List Nat} {w0 w : World} {X : List A} (h : Rf p a F w0 w X) (hF : a.Few 1000000) {i n : Nat} (hi : i < a.safe.length) (hn : n ≤ (a.pend i).length) :
    Calls Tryz.prog 46 #[.pointer (some ⟨p, 0, none⟩), .int .i64 i, .int .i64 n] w fun e w' => e = .returned (.tuple #[]) ∧ Rf p (keepA a i n) F w0 w' X := by
  obtain ⟨R, rfl, hA, hT⟩ := h
  refine (revetmentref04_Drive_keep_calls (R := fun v w' => v = .tuple #[] ∧ Rf R.p (keepA a i n) F w0 w' X) ?_).mono fun e w' ⟨v, he, hv, ht⟩ => ⟨hv ▸ he, ht⟩
  unfold revetmentref04_Drive_keep
  have hw : i < R.ws.length := by rw [hA.wl]; exact hi
  have hs : i < R.safe.length := by rw [hA.safe]; exact hi
  have hws := hA.ws i _ (List.getElem?_eq_getElem hw)
  refine Join.intro fun J hJ => ?_
  have fin : ∀ (safe' : List ByteArray) (w1 : World), safe'.length = R.safe.length → T F w0 w1 (refL { R with safe := safe' } ++ X) → (safe' = if 0 < n then a.safe.set i ((a.pend i).getD (n - 1) noB) else a.safe) → J [] w1 := by
    intro safe' w1 hl hT1 hs'
    refine hJ _ _ ⟨rfl, _, rfl, ?_⟩
    obtain ⟨b, hb, hst⟩ := setNil (R := { R with safe := safe' }) (i := i) hT1 hw fun w' hT2 => (⟨rfl, { R with safe := safe', ws := R.ws.set i ⟨none, 0, []⟩ }, rfl, keep_abs hA hi hs', hT2⟩ : Value.tuple #[] = Value.tuple #[] ∧ Rf R.p (keepA a i n) F w0 w' X)
    have hb : R.gw = some b := hb
    refine ⟨_, _, _, hT1.ldA (by repeat (first | exact List.Mem.head _ | refine List.Mem.tail _ ?_)) rfl, _, (by show ptr R.gw = _; rw [hb]; rfl), by omega, by show (i : Int) < (R.ws.length : Int); omega, ?_⟩
    exact hst
  refine ⟨dec_t fun hpos => ?_, dec_f fun hz => fin R.safe w rfl hT (by rw [if_neg (by omega), hA.safe])⟩
  have hfl := hF i
  have w1' : IntKind.i64.wrap ((n : Int) - 1) = ((n - 1 : Nat) : Int) := by rw [wrap64 _ (by omega) (by omega)]; omega
  rw [w1']
  have hlt : n - 1 < (R.ws[i]).l.length := by rw [hws]; omega
  have hTd := hT.drew
  have hmem : (R.ws[i]).row ∈ refL R ++ X := List.mem_append_left _ (List.mem_append_right _ (List.mem_map_of_mem (List.getElem_mem hw)))
  obtain ⟨b1, hb1, _⟩ := T.row1 (i := i) (v := (R.ws[i]).val) hTd (show rowP 42 1 R.gw R.ws.length R.cw (R.ws.map RW.val) ∈ _ from (by repeat (first | exact List.Mem.head _ | refine List.Mem.tail _ ?_))) (by rw [List.getElem?_map, List.getElem?_eq_getElem hw]; rfl)
  obtain ⟨b2, hb2, _⟩ := T.row1 (i := n - 1) (v := .string (R.ws[i]).l[n - 1]) hTd (show rowP 9 1 (R.ws[i]).g (R.ws[i]).l.length (R.ws[i]).cap ((R.ws[i]).l.map .string) ∈ _ from hmem) (by rw [List.getElem?_map, List.getElem?_eq_getElem hlt]; rfl)
  obtain ⟨b3, hb3, hst⟩ := setSafe (i := i) (s := (R.ws[i]).l[n - 1]) (K := fun w3 => J [] w3) hTd hs fun w' hT2 => fin _ w' (by rw [List.length_set]) hT2 (by
    rw [if_pos (by omega), ← hA.safe]
    congr 1
    rw [← hws, List.getD_eq_getElem?_getD, List.getElem?_eq_getElem hlt]; rfl)
  refine ⟨fun w => T F w0 w (refL R ++ X), hTd, _, rfl, _, _, _, fun w h => h.ld (by repeat (first | exact List.Mem.head _ | refine List.Mem.tail _ ?_)) rfl, _, rfl, _, _, _, fun w h => h.ldA (by repeat (first | exact List.Mem.head _ | refine List.Mem.tail _ ?_)) rfl, _, by rw [hb1]; rfl, by omega, by omega, ptr (R.ws[i]).g, (R.ws[i]).l.length, (R.ws[i]).cap, fun w h => ?_, _, by rw [hb2]; rfl, by omega, by omega, _, fun w h => ?_, _, by rw [hb3]; rfl, by omega, by omega, hst⟩
  · obtain ⟨b4, hb4, hc⟩ := T.row1 (i := i) (v := (R.ws[i]).val) h (show rowP 42 1 R.gw R.ws.length R.cw (R.ws.map RW.val) ∈ _ from (by repeat (first | exact List.Mem.head _ | refine List.Mem.tail _ ?_))) (by rw [List.getElem?_map, List.getElem?_eq_getElem hw]; rfl)
    rw [hb1] at hb4; cases hb4
    exact hc
  · obtain ⟨b4, hb4, hc⟩ := T.row1 (i := n - 1) (v := .string (R.ws[i]).l[n - 1]) h (show rowP 9 1 (R.ws[i]).g (R.ws[i]).l.length (R.ws[i]).cap ((R.ws[i]).l.map .string) ∈ _ from hmem) (by rw [List.getElem?_map, List.getElem?_eq_getElem hlt]; rfl)
    rw [hb2] at hb4; cases hb4
    exact hc
theorem rspoil_r {p : Nat} {a : AD} {F : List Nat} {w0 w : World} {X : List A} (h : Rf p a F w0 w X) (i : Int) :
    Calls Tryz.prog 13 #[.pointer (some ⟨p, 0, none⟩), .int .i64 i] w fun e w' => e = .returned (.int .i64 (a.may i)) ∧ Rf p (a.spoil i) F w0 w' X := by
  have h0 := h
  obtain ⟨R, rfl, hA, hT⟩ := h
  refine (revetmentref04_Drive_Spoil_calls (R := fun v w' => v = .int .i64 (a.may i) ∧ Rf R.p (a.spoil i) F w0 w' X) ?_).mono fun e w' ⟨v, he, hv, ht⟩ => ⟨hv ▸ he, ht⟩
  unfold revetmentref04_Drive_Spoil
  refine (rmay_r h0 i).mono fun e w1 ⟨he, hx⟩ => ⟨_, he, beq_t fun hm => ?_, beq_f fun hm => ⟨rfl, ?_⟩⟩
  · have hi := AD.may_zero hm
    have hp : i.toNat < R.sp.length := by rw [hA.pl]; omega
    have hT1 := hT.quiet hx
    have ha : a.spoil i = { a with spoilt := fun j => if j = i.toNat then true else a.spoilt j } := by unfold AD.spoil; rw [if_neg (by simpa using hm)]
    obtain ⟨b, hb, hst⟩ := setSp (i := i.toNat) (v := true) hT1 hp fun w' hT2 => (⟨rfl, { R with sp := R.sp.set i.toNat true }, rfl, by
      rw [ha]
      refine ⟨hA.n1, hA.safe, hA.wl, hA.ws, by show (R.sp.set _ _).length = _; rw [List.length_set]; exact hA.pl, fun j x hx => ?_, hA.dead, hA.power⟩
      have h2 : (R.sp.set i.toNat true)[j]? = some x := hx
      show x = if j = i.toNat then true else a.spoilt j
      by_cases hj : j = i.toNat
      · subst hj
        rw [List.getElem?_set_self hp] at h2
        rw [if_pos rfl]
        exact (Option.some.inj h2).symm
      · rw [List.getElem?_set_ne (fun h => hj h.symm)] at h2
        rw [if_neg hj]
        exact hA.sp j x h2, hT2⟩ : Value.int .i64 (a.may i) = Value.int .i64 (a.may i) ∧ Rf R.p (a.spoil i) F w0 w' X)
    exact ⟨_, rfl, _, _, _, hT1.ldA (by repeat (first | exact List.Mem.head _ | refine List.Mem.tail _ ?_)) rfl, _, by rw [hb]; rfl, by omega, by omega, hst⟩
  · unfold AD.spoil
    rw [if_pos hm]
    exact h0.quiet hx
end Go.Proofs.YtmipjkalfodcpaaGreatDoor
end
section
/-! the reference's drive: Flush, Crash, Off, New. -/
namespace Go.Proofs.YtmipjkalfodcpaaGreatDoor
open Go.Sh Go.Maps Go.RowKit
set_option linter.unusedVariables false
set_option maxHeartbeats 1000000
set_option maxRecDepth 20000
def cnt (pend : Nat → List ByteArray) : Nat → Nat → Nat
  | _, 0 => 0
  | i, n + 1 => (if pend i = [] then 0 else 1) + cnt pend (i + 1) n
theorem cnt_snoc (pend : Nat → List ByteArray) : ∀ (n i : Nat), cnt pend i (n + 1) = cnt pend i n + if pend (i + n) = [] then 0 else 1
  | 0, i => by simp [cnt]
  | n + 1, i => by
    have h := cnt_snoc pend n (i + 1)
    rw [show i + 1 + n = i + (n + 1) by omega] at h
    show (if pend i = [] then 0 else 1) + cnt pend (i + 1) (n + 1) = (if pend i = [] then 0 else 1) + cnt pend (i + 1) n + _
    rw [h]
    omega
theorem cnt_le (pend : Nat → List ByteArray) : ∀ (n i : Nat), cnt pend i n ≤ n
  | 0, i => Nat.le_refl _
  | n + 1, i => by
    have h := cnt_le pend n (i + 1)
    show (if pend i = [] then 0 else 1) + cnt pend (i + 1) n ≤ n + 1
    split <;> omega
theorem keptFrom_snoc (g : Nat → Nat → Nat) (pend : Nat → List ByteArray) (s : ByteArray) : ∀ (l : List ByteArray) (i k : Nat),
    keptFrom g pend i k (l ++ [s]) = keptFrom g pend i k l ++ [if pend (i + l.length) = [] then s else if 0 < g (k + cnt pend i l.length) (pend (i + l.length)).length then (pend (i + l.length)).getD (g (k + cnt pend i l.length) (pend (i + l.length)).length - 1) noB else s]
  | [], i, k => by
    simp only [List.nil_append, keptFrom, List.length_nil, Nat.add_zero, cnt]
    split <;> rfl
  | x :: l, i, k => by
    have h1 := keptFrom_snoc g pend s l (i + 1) k
    have h2 := keptFrom_snoc g pend s l (i + 1) (k + 1)
    rw [show i + 1 + l.length = i + (x :: l).length by simp; omega] at h1 h2
    simp only [List.cons_append, keptFrom]
    have hc : cnt pend i (x :: l).length = (if pend i = [] then 0 else 1) + cnt pend (i + 1) l.length := rfl
    by_cases hp : pend i = []
    · rw [if_pos hp, if_pos hp, h1, hc, if_pos hp, Nat.zero_add]; rfl
    · rw [if_neg hp, if_neg hp, h2, hc, if_neg hp, show k + 1 + cnt pend (i + 1) l.length = k + (1 + cnt pend (i + 1) l.length) by omega]; rfl
/-- the first i sectors are settled -/
def AD.part (a : AD) (g : Nat → Nat → Nat) (i : Nat) : AD := { a with safe := keptFrom g a.pend 0 0 (a.safe.take i) ++ a.safe.drop i, pend := fun j => if j < i then [] else a.pend j }
theorem part_zero (a : AD) (g : Nat → Nat → Nat) : a.part g 0 = a := by
  unfold AD.part
  simp [keptFrom]
theorem part_len (a : AD) (g : Nat → Nat → Nat) (i : Nat) : (a.part g i).safe.length = a.safe.length := by
  simp [AD.part, keptFrom_len]; omega
theorem part_step (a : AD) (g : Nat → Nat → Nat) {i : Nat} (hi : i < a.safe.length) : a.part g (i + 1) = keepA (a.part g i) i (if a.pend i = [] then 0 else g (cnt a.pend 0 i) (a.pend i).length) := by
  have hpi : (a.part g i).pend i = a.pend i := by simp [AD.part]
  have hpend : (fun j => if j < i + 1 then [] else a.pend j) = fun j => if j = i then ([] : List ByteArray) else if j < i then [] else a.pend j := by
    funext j
    by_cases h1 : j = i
    · subst h1; simp
    · by_cases h2 : j < i
      · rw [if_pos (by omega), if_neg h1, if_pos h2]
      · rw [if_neg (by omega), if_neg h1, if_neg h2]
  have htake : a.safe.take (i + 1) = a.safe.take i ++ [a.safe[i]] := by rw [List.take_add_one, List.getElem?_eq_getElem hi]; rfl
  have hdrop : a.safe.drop i = a.safe[i] :: a.safe.drop (i + 1) := by rw [List.drop_eq_getElem_cons hi]
  have hlt : (a.safe.take i).length = i := by rw [List.length_take]; omega
  have hkl : (keptFrom g a.pend 0 0 (a.safe.take i)).length = i := by rw [keptFrom_len, hlt]
  have hsafe : keptFrom g a.pend 0 0 (a.safe.take (i + 1)) ++ a.safe.drop (i + 1) = if 0 < (if a.pend i = [] then 0 else g (cnt a.pend 0 i) (a.pend i).length) then (keptFrom g a.pend 0 0 (a.safe.take i) ++ a.safe.drop i).set i ((a.pend i).getD ((if a.pend i = [] then 0 else g (cnt a.pend 0 i) (a.pend i).length) - 1) noB) else keptFrom g a.pend 0 0 (a.safe.take i) ++ a.safe.drop i := by
    rw [htake, keptFrom_snoc, hlt, Nat.zero_add, Nat.zero_add, hdrop, List.append_assoc]
    by_cases hp : a.pend i = []
    · simp only [hp, if_true, Nat.lt_irrefl, if_false]; rfl
    · simp only [hp, if_false]
      split
      · rw [List.set_append_right _ _ (by omega), hkl, Nat.sub_self, List.set_cons_zero]; rfl
      · rfl
  unfold keepA
  rw [hpi]
  show AD.mk _ _ _ _ _ = AD.mk _ _ _ _ _
  rw [hpend, hsafe]
  rfl
theorem part_skip (a : AD) (g : Nat → Nat → Nat) {i : Nat} (hi : i < a.safe.length) (hp : a.pend i = []) : a.part g (i + 1) = a.part g i := by
  rw [part_step a g hi, if_pos hp]
  unfold keepA
  have : (fun j => if j = i then [] else (a.part g i).pend j) = (a.part g i).pend := by
    funext j
    by_cases h1 : j = i
    · subst h1; simp [AD.part, hp]
    · rw [if_neg h1]
  rw [this]
  simp
theorem part_end {R : RL} {a : AD} {g : Nat → Nat → Nat} (h : RAbs R (a.part g a.safe.length)) : RAbs R (a.settle g) := by
  have hs : (a.part g a.safe.length).safe = keptFrom g a.pend 0 0 a.safe := by simp [AD.part]
  have hl : (a.settle g).safe.length = a.safe.length := by show (keptFrom g a.pend 0 0 a.safe).length = _; rw [keptFrom_len]
  have hw := h.wl
  have hpl := h.pl
  rw [part_len] at hw hpl
  refine ⟨by rw [hl, ← part_len a g a.safe.length]; exact h.n1, by rw [h.safe, hs]; rfl, by rw [hl]; exact hw, fun j e he => ?_, by rw [hl]; exact hpl, h.sp, h.dead, h.power⟩
  have hj := (List.getElem?_eq_some_iff.1 he).1
  rw [h.ws j e he]
  show (if j < a.safe.length then [] else a.pend j) = []
  rw [if_pos (by omega)]
theorem part_few {a : AD} {N : Nat} (h : a.Few N) (g : Nat → Nat → Nat) (i : Nat) : (a.part g i).Few N := by
  intro j
  show (if j < i then [] else a.pend j).length ≤ N
  split
  · exact Nat.zero_le _
  · exact h j
theorem rflush_r {p : Nat} {a : AD} {F : List Nat} {w0 w : World} {X : List A} (h : Rf p a F w0 w X) (hF : a.Few 1000000) :
    Calls Tryz.prog 27 #[.pointer (some ⟨p, 0, none⟩)] w fun e w' => e = .returned (.int .i64 a.flush1) ∧ Rf p a.flush F w0 w' X := by
  have h0 := h
  obtain ⟨R, rfl, hA, hT⟩ := h
  refine (revetmentref04_Drive_Flush_calls (R := fun v w' => v = .int .i64 a.flush1 ∧ Rf R.p a.flush F w0 w' X) ?_).mono fun e w' ⟨v, he, hv, ht⟩ => ⟨hv ▸ he, ht⟩
  unfold revetmentref04_Drive_Flush
  have hd := hA.dead
  have fail : ∀ n, a.flush1 = n → n ≠ 0 → ∀ w1, Ext w w1 → Value.int .i64 n = .int .i64 a.flush1 ∧ Rf R.p a.flush F w0 w1 X := fun n hn h1 w1 hx => by
    refine ⟨by rw [hn], ?_⟩
    unfold AD.flush
    rw [if_pos (by rw [hn]; exact h1)]
    exact h0.quiet hx
  refine ⟨_, rfl, _, hT.ldA (by repeat (first | exact List.Mem.head _ | refine List.Mem.tail _ ?_)) rfl, fun hc => fail 40 (by unfold AD.flush1; rw [if_pos (by rw [← hd]; exact hc)]) (by decide) _ (.refl w), fun hc => ?_⟩
  have hnd : ¬ a.dead = true := by rw [← hd, hc]; simp
  refine (roff_r h0).mono fun e w1 ⟨he, hx⟩ => ⟨_, he, fun ho => fail 42 (by unfold AD.flush1; rw [if_neg hnd, if_pos ho]) (by decide) _ hx, fun ho => ?_⟩
  have hz : a.flush1 = 0 := by unfold AD.flush1; rw [if_neg hnd, if_neg (by rw [ho]; simp)]
  refine (ruse_r (hT.quiet hx)).mono fun e w2 ⟨he, hT2⟩ => ⟨he, ?_⟩
  have hA1 : RAbs { R with left := if R.cut then IntKind.i64.wrap (R.left - 1) else R.left } { a with power := a.power.map (· - 1) } := ⟨hA.n1, hA.safe, hA.wl, hA.ws, hA.pl, hA.sp, hA.dead, hA.left ho⟩
  have h2 : Rf R.p { a with power := a.power.map (· - 1) } F w0 w2 X := ⟨{ R with left := if R.cut then IntKind.i64.wrap (R.left - 1) else R.left }, rfl, hA1, hT2⟩
  rw [hz, AD.flush_of hz]
  have hF1 : ({ a with power := a.power.map (· - 1) } : AD).Few 1000000 := hF
  generalize ({ a with power := a.power.map (· - 1) } : AD) = b at h2 hF1
  clear hA1 hT2 hA hT
  refine ⟨fun vs w' => ∃ i : Nat, vs = [.int .i64 i] ∧ i ≤ b.safe.length ∧ b.safe.length ≤ 4096 ∧ Rf R.p (b.part (fun _ m => m) i) F w0 w' X, fun vs _ => match vs with | [.int _ i] => (5000 - i).toNat | _ => 0, ⟨0, rfl, by omega, (by obtain ⟨_, _, hA, _⟩ := h2; exact hA.n1), by rw [part_zero]; exact h2⟩, ?_⟩
  rintro vs w3 ⟨i, rfl, hib, hn1, hR⟩
  have hR0 := hR
  obtain ⟨R3, hp3, hA3, hT3⟩ := hR
  have hwl := hA3.wl
  rw [part_len] at hwl
  refine ⟨_, rfl, ⟨R3.p, 0, none⟩, by rw [hp3], _, _, _, hT3.ldA (by repeat (first | exact List.Mem.head _ | refine List.Mem.tail _ ?_)) rfl, dec_t fun hlt => ?_, dec_f fun hge => ⟨rfl, R3, hp3, ?_, hT3⟩⟩
  · have hi : i < b.safe.length := by omega
    have hw : i < R3.ws.length := by omega
    obtain ⟨q, hq, hc⟩ := T.row1 (i := i) (v := (R3.ws[i]).val) hT3 (show rowP 42 1 R3.gw R3.ws.length R3.cw (R3.ws.map RW.val) ∈ _ from (by repeat (first | exact List.Mem.head _ | refine List.Mem.tail _ ?_))) (by rw [List.getElem?_map, List.getElem?_eq_getElem hw]; rfl)
    have hws := hA3.ws i _ (List.getElem?_eq_getElem hw)
    have hpi : (b.part (fun _ m => m) i).pend i = b.pend i := by simp [AD.part]
    rw [hpi] at hws
    refine ⟨⟨R3.p, 0, none⟩, by rw [hp3], _, _, _, hT3.ldA (by repeat (first | exact List.Mem.head _ | refine List.Mem.tail _ ?_)) (by rw [hq]; rfl), _, rfl, by omega, by omega, _, _, _, hc, ?_⟩
    have hk := rkeep_r hR0 (part_few hF1 _ i) (i := i) (n := (b.pend i).length) (by rw [part_len]; exact hi) (by rw [hpi]; exact Nat.le_refl _)
    rw [hws]
    refine hk.mono fun e w4 ⟨he, h4⟩ => ⟨he, ⟨i + 1, by rw [wrap64 _ (by omega) (by omega)]; rfl, by omega, hn1, ?_⟩, ?_⟩
    · rw [part_step b _ hi]
      have : (if b.pend i = [] then 0 else (fun _ m => m) (cnt b.pend 0 i) (b.pend i).length) = (b.pend i).length := by
        split
        · rename_i h; rw [h]; rfl
        · rfl
      rw [this]
      exact h4
    · show ((5000 : Int) - IntKind.i64.wrap ((i : Int) + 1)).toNat < ((5000 : Int) - (i : Int)).toNat
      rw [wrap64 _ (by omega) (by omega)]; omega
  · have hi : i = b.safe.length := by omega
    rw [hi] at hA3
    exact part_end hA3
/-- r.Gone = true -/
theorem rgone {p : Nat} {a : AD} {F : List Nat} {w0 w : World} {X : List A} {K : World → Prop} (h : Rf p a F w0 w X) (hK : ∀ w', Rf p a.die F w0 w' X → K w') : St (Addr.add ⟨p, 0, none⟩ 3) (.bool true) w K := by
  obtain ⟨R, rfl, hA, hT⟩ := h
  exact St.tA hT .head (by simp) (by rfl) rfl fun w1 hT1 => hK w1 ⟨{ R with gone := true }, rfl, ⟨hA.n1, hA.safe, hA.wl, hA.ws, hA.pl, hA.sp, rfl, hA.power⟩, hT1⟩
theorem push_t {P : Program} {F : List Nat} {w0 w : World} {Γ Δ : List A} {t e : TypeId} {i : TypeInfo} {z v : Value} (ht : P.underlying t = some (.slice e)) (hi : P.info? e = some i) (hz : i.zero = some z) (hsize : i.size = 1) (hzs : z.cells.size = 1) (hby : decide (i.bytes ≤ 1000000) = true)
    {g : Option Nat} {n cap : Nat} {xs : List Value} (hT : T F w0 w Γ) (hk : Pick (rowP e 1 g n cap xs) Γ Δ) (hv : v.oneCell' = true) (hn : n ≤ 1000000) {K : Option Addr → Nat → Nat → World → Prop} (hK : ∀ g' cap' w', T F w0 w' (rowP e 1 g' (n + 1) cap' (xs ++ [v]) :: Δ) → K (ptr g') (n + 1) cap' w') :
    Alloc #[v] e w fun k w1 => ∃ (p : Option Addr) (l c : Nat), ∃ w2, (builtin .append #[t, t] t #[false, false] #[.slice (ptr g) n cap, .slice (some ⟨k, 0, none⟩) 1 1]).run P w1 = .ok (.value (.slice p l c)) w2 ∧ K p l c w2 := by
  refine Alloc.t hT fun k w1 hT1 => ?_
  have hby' : i.bytes ≤ 1000000 := of_decide_eq_true hby
  have hmul : (n + 1) * i.bytes ≤ 1000001 * 1000000 := Nat.mul_le_mul (by omega) hby'
  obtain ⟨g', cap', w', hr, hT'⟩ := append_t (ty := t) #[false, false] ht hi hz hsize hzs hT1 (.tail hk) (a := ⟨k, 0, none⟩) (m := 1) (c := 1) (news := [v]) rfl (fun j u hu => by
      rw [addr_add, Nat.zero_add]
      exact hT1.ld (by repeat (first | exact List.Mem.head _ | refine List.Mem.tail _ ?_)) (by simpa using hu)) (fun u hu => by obtain rfl := List.mem_singleton.1 hu; exact hv) (by simp only [maxLen]; omega) (by omega)
  exact ⟨_, _, _, w', hr, hK g' cap' w' (T.drop (hT'.swap (.swap _ _ _)))⟩
theorem perm4b {α : Type} (d c b a : α) (l : List α) : (d :: c :: b :: a :: l).Perm (a :: b :: c :: d :: l) := by
  have h1 := List.reverse_perm [a, b, c, d]
  exact h1.append_right l
theorem rnew_r (n : Nat) {F : List Nat} {w0 w : World} {X : List A} (hT : T F w0 w X) (hn : 1 ≤ n ∧ n ≤ 4096) :
    Calls Tryz.prog 6 #[.int .i64 n] w fun e w' => ∃ p, e = .returned (.pointer (some ⟨p, 0, none⟩)) ∧ Rf p (AD.new n) F w0 w' X := by
  refine (revetmentref04_New_calls (R := fun v w' => ∃ p, v = .pointer (some ⟨p, 0, none⟩) ∧ Rf p (AD.new n) F w0 w' X) ?_).mono fun e w' ⟨v, he, p, hv, ht⟩ => ⟨p, hv ▸ he, ht⟩
  unfold revetmentref04_New
  refine ⟨dec_t fun h => absurd h (by omega), dec_f fun _ => ⟨dec_t fun h => absurd h (by omega), dec_f fun _ => ?_⟩⟩
  refine Alloc.t hT fun k w1 hT1 => (blank_spec w1).mono fun e w2 ⟨he, hx⟩ => ⟨_, he, ?_⟩
  have nils : ∀ m : Nat, (List.replicate m (⟨none, 0, []⟩ : RW)).map RW.row = List.replicate m (RW.row ⟨none, 0, []⟩) := fun m => by simp
  have hT2 : T F w0 w2 (refL ⟨k, none, 0, none, 0, none, 0, [], [], [], false, false, 0⟩ ++ X) := ((((hT1.quiet hx).swap (.refl _)).nilRow 4 1).nilRow 42 1).nilRow 9 1 |>.swap (by
    exact (List.perm_middle (l₁ := [rowP 9 1 none 0 0 [], rowP 42 1 none 0 0 [], rowP 4 1 none 0 0 []])))
  refine ⟨fun vs w' => ∃ (i : Nat) (gs gw gp : Option Nat) (cs cw cp : Nat), vs = [.int .i64 i] ∧ i ≤ n ∧ T F w0 w' (refL ⟨k, gs, cs, gw, cw, gp, cp, List.replicate i zeroSec, List.replicate i ⟨none, 0, []⟩, List.replicate i false, false, false, 0⟩ ++ X), fun vs _ => match vs with | [.int _ i] => (n - i).toNat | _ => 0, ⟨0, none, none, none, 0, 0, 0, rfl, by omega, hT2⟩, ?_⟩
  rintro vs w3 ⟨i, gs, gw, gp, cs, cw, cp, rfl, hin, hT3⟩
  refine ⟨_, rfl, dec_t fun hlt => ?_, dec_f fun hge => ⟨k, rfl, _, rfl, ?_, hT3⟩⟩
  · have wr : IntKind.i64.wrap ((i : Int) + 1) = ((i + 1 : Nat) : Int) := by rw [wrap64 _ (by omega) (by omega)]; omega
    rw [wr]
    have hk : refL ⟨k, gs, cs, gw, cw, gp, cp, List.replicate i zeroSec, List.replicate i ⟨none, 0, []⟩, List.replicate i false, false, false, 0⟩ = [blk k #[.slice (ptr gs) i cs, .slice (ptr gw) i cw, .slice (ptr gp) i cp, .bool false, .bool false, .int .i64 0] 46,
        rowP 9 1 gs i cs (List.replicate i (.string zeroSec)), rowP 42 1 gw i cw (List.replicate i (.slice none 0 0)), rowP 4 1 gp i cp (List.replicate i (.bool false))] ++ List.replicate i (RW.row ⟨none, 0, []⟩) := by
      simp only [refL, hdr, List.length_replicate, List.map_replicate]; rfl
    rw [hk] at hT3
    refine ⟨_, rfl, _, _, _, hT3.ld (by repeat (first | exact List.Mem.head _ | refine List.Mem.tail _ ?_)) rfl, push_t (i := Tryz.t9) (z := .string (ByteArray.mk #[])) (by kernel_rfl) (by kernel_rfl) (by kernel_rfl) (by kernel_rfl) (by kernel_rfl) (by kernel_rfl) hT3 (.tail .head) rfl (by omega) fun g1 c1 w4 hT4 => ⟨_, rfl, ?_⟩⟩
    refine St.t hT4 (.tail .head) (by simp) (by rfl) rfl fun w5 hT5 => ⟨_, rfl, _, _, _, hT5.ldA (by repeat (first | exact List.Mem.head _ | refine List.Mem.tail _ ?_)) rfl, ?_⟩
    refine push_t (i := Tryz.t42) (z := .slice none 0 0) (by kernel_rfl) (by kernel_rfl) (by kernel_rfl) (by kernel_rfl) (by kernel_rfl) (by kernel_rfl) hT5 (.tail (.tail .head)) rfl (by omega) fun g2 c2 w6 hT6 => ⟨_, rfl, ?_⟩
    refine St.tA hT6 (.tail (.tail .head)) (by simp) (by rfl) rfl fun w7 hT7 => ⟨_, rfl, _, _, _, hT7.ldA (by repeat (first | exact List.Mem.head _ | refine List.Mem.tail _ ?_)) rfl, ?_⟩
    refine push_t (i := Tryz.t4) (z := .bool false) (by kernel_rfl) (by kernel_rfl) (by kernel_rfl) (by kernel_rfl) (by kernel_rfl) (by kernel_rfl) hT7 (.tail (.tail (.tail .head))) rfl (by omega) fun g3 c3 w8 hT8 => ⟨_, rfl, ?_⟩
    refine St.tA hT8 (.tail (.tail (.tail .head))) (by simp) (by rfl) rfl fun w9 hT9 => ⟨⟨i + 1, g1, g2, g3, c1, c2, c3, rfl, by omega, ?_⟩, ?_⟩
    · have hk2 : refL ⟨k, g1, c1, g2, c2, g3, c3, List.replicate (i + 1) zeroSec, List.replicate (i + 1) ⟨none, 0, []⟩, List.replicate (i + 1) false, false, false, 0⟩ = [blk k #[.slice (ptr g1) (i + 1) c1, .slice (ptr g2) (i + 1) c2, .slice (ptr g3) (i + 1) c3, .bool false, .bool false, .int .i64 0] 46,
          rowP 9 1 g1 (i + 1) c1 (List.replicate i (.string zeroSec) ++ [.string zeroSec]), rowP 42 1 g2 (i + 1) c2 (List.replicate i (.slice none 0 0) ++ [.slice none 0 0]), rowP 4 1 g3 (i + 1) c3 (List.replicate i (.bool false) ++ [.bool false])] ++ (RW.row ⟨none, 0, []⟩ :: List.replicate i (RW.row ⟨none, 0, []⟩)) := by
        simp only [refL, hdr, List.length_replicate, List.map_replicate, ← List.replicate_succ', ← List.replicate_succ]; rfl
      rw [hk2]
      refine (nil_row hT9).swap ?_
      refine List.Perm.trans ?_ (List.perm_middle (l₁ := [blk k #[.slice (ptr g1) (i + 1) c1, .slice (ptr g2) (i + 1) c2, .slice (ptr g3) (i + 1) c3, .bool false, .bool false, .int .i64 0] 46,
          rowP 9 1 g1 (i + 1) c1 (List.replicate i (.string zeroSec) ++ [.string zeroSec]), rowP 42 1 g2 (i + 1) c2 (List.replicate i (.slice none 0 0) ++ [.slice none 0 0]), rowP 4 1 g3 (i + 1) c3 (List.replicate i (.bool false) ++ [.bool false])])).symm
      refine List.Perm.cons _ ?_
      exact perm4b _ _ _ _ _
    · show ((n : Int) - ((i + 1 : Nat) : Int)).toNat < ((n : Int) - (i : Int)).toNat
      omega
  · have hi : i = n := by omega
    subst hi
    refine ⟨by simp [AD.new]; omega, rfl, by simp [AD.new], fun j e he => ?_, by simp [AD.new], fun j b hb => ?_, rfl, rfl⟩
    · rw [List.eq_of_mem_replicate (List.mem_of_getElem? he)]; rfl
    · rw [List.eq_of_mem_replicate (List.mem_of_getElem? hb)]; rfl
end Go.Proofs.YtmipjkalfodcpaaGreatDoor
end
section
/-! A drive that holds texts, all of them safe; what is done beside a drive. -/
namespace Go.Proofs.YtmipjkalfodcpaaGreatDoor
open Go.Sh Go.RowKit
set_option linter.unusedVariables false
set_option linter.unusedSimpArgs false
set_option maxRecDepth 20000
set_option maxHeartbeats 1000000
theorem read_on {a : AD} {n : Nat} (h : a.On n) {i : Int} (hi : 0 ≤ i ∧ i < (n : Int)) : a.read i = if a.spoilt i.toNat then (noB, 41) else (a.top i.toNat, 0) := AD.read_of (h.may hi)
/-- nothing is pending, nothing is spoilt -/
structure AD.Hold (a : AD) (n : Nat) (f : Nat → ByteArray) : Prop where
  on : a.On n
  pend : ∀ j, a.pend j = []
  sp : ∀ j, a.spoilt j = false
  safe : ∀ j, j < n → a.safe.getD j noB = f j
theorem AD.Hold.few {a : AD} {n : Nat} {f : Nat → ByteArray} (h : a.Hold n f) (N : Nat) : a.Few N := fun j => by rw [h.pend]; exact Nat.zero_le _
theorem AD.Hold.read {a : AD} {n : Nat} {f : Nat → ByteArray} (h : a.Hold n f) {i : Nat} (hi : i < n) : a.read (i : Int) = (f i, 0) := by
  rw [read_on h.on (by omega), Int.toNat_natCast, if_neg (by rw [h.sp]; decide), AD.top_none (h.pend i), h.safe i hi]
theorem hold_new (n : Nat) : (AD.new n).Hold n fun _ => zeroSec := ⟨AD.On.new n, fun _ => rfl, fun _ => rfl, fun j hj => by
  show (List.replicate n zeroSec).getD j noB = zeroSec
  simp [List.getD, hj]⟩
theorem AD.Hold.change {a : AD} {n : Nat} {f : Nat → ByteArray} (h : a.Hold n f) {i : Nat} (hi : i < n) {s : ByteArray} (hs : s.size = 64) : (a.change (i : Int) s).Hold n fun j => if j = i then s else f j := by
  have hp := h.on.put (i := (i : Int)) (by omega) hs
  refine ⟨h.on.change _ _, fun j => ?_, fun j => ?_, fun j hj => ?_⟩ <;> rw [AD.change_of hp]
  · show (if j = (i : Int).toNat then [] else a.pend j) = []
    rw [h.pend]; split <;> rfl
  · exact h.sp j
  · show (a.safe.set (i : Int).toNat s).getD j noB = _
    have hl := h.on.len
    rw [Int.toNat_natCast, List.getD_eq_getElem?_getD, List.getElem?_set]
    by_cases e : i = j
    · subst e; rw [if_pos rfl, if_pos (by omega), if_pos rfl]; rfl
    · rw [if_neg e, if_neg (fun e' => e e'.symm), ← h.safe j hj, List.getD_eq_getElem?_getD]
theorem AD.Hold.few_write {a : AD} {n : Nat} {f : Nat → ByteArray} (h : a.Hold n f) (i : Int) (s : ByteArray) : (a.write i s).Few 1000000 := ((h.few 0).write i s).mono (by decide)
theorem AD.Hold.save {a : AD} {n : Nat} {f : Nat → ByteArray} (h : a.Hold n f) {i : Nat} (hi : i < n) {s : ByteArray} (hs : s.size = 64) : ((a.write (i : Int) s).flush).Hold n fun j => if j = i then s else f j := by
  have hp := h.on.put (i := (i : Int)) (by omega) hs
  have how := h.on.write (i : Int) s
  refine ⟨how.flush, fun j => ?_, fun j => ?_, fun j hj => ?_⟩ <;> rw [AD.flush_of how.flush1]
  · rfl
  · show (a.write (i : Int) s).spoilt j = false
    rw [AD.write_of hp]
    show (if j = (i : Int).toNat then false else a.spoilt j) = false
    rw [h.sp]; split <;> rfl
  · show (keptFrom (fun _ m => m) (a.write (i : Int) s).pend 0 0 (a.write (i : Int) s).safe).getD j noB = _
    obtain ⟨k', hk⟩ := keptFrom_get (fun _ m => m) (a.write (i : Int) s).pend noB (a.write (i : Int) s).safe 0 0 j (by rw [how.len]; exact hj)
    rw [hk, Nat.zero_add, AD.write_of hp]
    simp only [Int.toNat_natCast]
    by_cases e : j = i
    · subst e
      simp [h.pend]
    · rw [if_neg e, if_pos (h.pend j), if_neg e]
      exact h.safe j hj
theorem AD.Hold.crash {a : AD} {n : Nat} {f : Nat → ByteArray} (h : a.Hold n f) {i : Nat} (hi : i < n) {s : ByteArray} (hs : s.size = 64) (keep : List UInt8) : ∃ q : Bool, ((a.write (i : Int) s).crash keep).Hold n fun j => if j = i ∧ q = true then s else f j := by
  have hp := h.on.put (i := (i : Int)) (by omega) hs
  have how := h.on.write (i : Int) s
  have hsafe : (a.write (i : Int) s).safe = a.safe := by rw [AD.write_of hp]
  have hpend : ∀ j, (a.write (i : Int) s).pend j = if j = i then [s] else [] := fun j => by
    rw [AD.write_of hp]
    show (if j = (i : Int).toNat then a.pend j ++ [s] else a.pend j) = _
    rw [h.pend, Int.toNat_natCast]; rfl
  have hsp : ∀ j, (a.write (i : Int) s).spoilt j = false := fun j => by
    rw [AD.write_of hp]
    show (if j = (i : Int).toNat then false else a.spoilt j) = false
    rw [h.sp]; split <;> rfl
  obtain ⟨k0, hk0⟩ := keptFrom_get (keepG keep) (a.write (i : Int) s).pend noB (a.write (i : Int) s).safe 0 0 i (by rw [how.len]; exact hi)
  refine ⟨decide (0 < keepG keep k0 1), ⟨how.dead, rfl, ?_⟩, fun j => rfl, hsp, fun j hj => ?_⟩
  · show (keptFrom (keepG keep) (a.write (i : Int) s).pend 0 0 (a.write (i : Int) s).safe).length = n
    rw [keptFrom_len, how.len]
  · show (keptFrom (keepG keep) (a.write (i : Int) s).pend 0 0 (a.write (i : Int) s).safe).getD j noB = _
    by_cases e : j = i
    · subst e
      rw [hk0, Nat.zero_add, hpend, if_pos rfl, if_neg (by simp)]
      have hle := keepG_le keep k0 1
      by_cases hg : 0 < keepG keep k0 1
      · have h1 : keepG keep k0 1 = 1 := by omega
        simp [h1]
      · simp only [List.length_singleton, if_neg hg]
        rw [if_neg (by simp [hg]), hsafe, h.safe j hj]
    · obtain ⟨k', hk⟩ := keptFrom_get (keepG keep) (a.write (i : Int) s).pend noB (a.write (i : Int) s).safe 0 0 j (by rw [how.len]; exact hj)
      rw [hk, Nat.zero_add, hpend, if_neg e, if_pos rfl, hsafe, h.safe j hj, if_neg (fun h => e h.1)]
theorem Dr.alloc {p : Nat} {a : AD} {F : List Nat} {w0 w : World} {X : List A} (h : Dr p a F w0 w X) {c : Array Value} {t : TypeId} {K : Nat → World → Prop} (hK : ∀ b w', Dr p a F w0 w' (blk b c t :: X) → K b w') : Alloc c t w K := by
  obtain ⟨D, h1, h2, hT⟩ := h
  refine Alloc.t hT fun b w' hT' => hK b w' ⟨D, h1, h2, ?_⟩
  first
    | exact hT'
    | exact hT'.swap List.perm_middle.symm
theorem drew_dr {p : Nat} {a : AD} {F : List Nat} {w0 w : World} {X : List A} (h : Dr p a F w0 w X) : Dr p a F w0 w.drew X := by
  obtain ⟨D, h1, h2, hT⟩ := h
  exact ⟨D, h1, h2, hT.drew⟩
section
variable {p : Nat} {a : AD} {F : List Nat} {w0 w : World} {X : List A}
theorem Dr.perm {X' : List A} (h : Dr p a F w0 w X) (hp : X.Perm X') : Dr p a F w0 w X' := by
  obtain ⟨D, h1, h2, hT⟩ := h
  exact ⟨D, h1, h2, hT.swap (hp.append_right _)⟩
theorem Dr.dropX {y : A} (h : Dr p a F w0 w (y :: X)) : Dr p a F w0 w X := by
  obtain ⟨D, h1, h2, hT⟩ := h
  exact ⟨D, h1, h2, T.drop hT⟩
theorem Dr.only {y : A} : ∀ {X : List A}, Dr p a F w0 w (y :: X) → Dr p a F w0 w [y]
  | [], h => h
  | _ :: X, h => Dr.only (X := X) (h.perm (.swap _ _ _)).dropX
theorem Dr.st1 {k i : Nat} {c c' : Array Value} {t : TypeId} {v : Value} {K : World → Prop} (h : Dr p a F w0 w (blk k c t :: X)) (hi : i < c.size) (hc : c.setIfInBounds i v = c') (hv : scalar v = true) (hK : ∀ w', Dr p a F w0 w' (blk k c' t :: X) → K w') : St ⟨k, i, none⟩ v w K := by
  obtain ⟨D, h1, h2, hT⟩ := h
  exact St.t (Γ := blk k c t :: (X ++ drvL D)) hT .head hi hc hv fun w' hT' => hK w' ⟨D, h1, h2, hT'⟩
theorem Dr.into {y : A} {K : Prop} (h : Dr p a F w0 w (y :: X)) (hK : ∀ Γ, T F w0 w (y :: Γ) → (∀ w' y', T F w0 w' (y' :: Γ) → Dr p a F w0 w' (y' :: X)) → K) : K := by
  obtain ⟨D, h1, h2, hT⟩ := h
  exact hK (X ++ drvL D) hT fun w' y' hT' => ⟨D, h1, h2, hT'⟩
theorem Rf.under (h : Rf p a F w0 w X) : T F w0 w X := by
  obtain ⟨R, h1, h2, hT⟩ := h
  exact T.dropAll hT
theorem Rf.alloc (h : Rf p a F w0 w X) {c : Array Value} {t : TypeId} {K : Nat → World → Prop} (hK : ∀ b w', Rf p a F w0 w' (blk b c t :: X) → K b w') : Alloc c t w K := by
  obtain ⟨R, h1, h2, hT⟩ := h
  exact Alloc.t hT fun b w' hT' => hK b w' ⟨R, h1, h2, hT'.swap List.perm_middle.symm⟩
theorem Rf.st1 {k i : Nat} {c c' : Array Value} {t : TypeId} {v : Value} {K : World → Prop} (h : Rf p a F w0 w (blk k c t :: X)) (hi : i < c.size) (hc : c.setIfInBounds i v = c') (hv : scalar v = true) (hK : ∀ w', Rf p a F w0 w' (blk k c' t :: X) → K w') : St ⟨k, i, none⟩ v w K := by
  obtain ⟨R, h1, h2, hT⟩ := h
  exact St.t (hT.swap List.perm_middle) .head hi hc hv fun w' hT' => hK w' ⟨R, h1, h2, hT'.swap List.perm_middle.symm⟩
theorem Rf.perm {X' : List A} (h : Rf p a F w0 w X) (hp : X.Perm X') : Rf p a F w0 w X' := by
  obtain ⟨R, h1, h2, hT⟩ := h
  exact ⟨R, h1, h2, hT.swap (hp.append_left _)⟩
theorem Rf.dropX {y : A} (h : Rf p a F w0 w (y :: X)) : Rf p a F w0 w X := by
  obtain ⟨R, h1, h2, hT⟩ := h
  exact ⟨R, h1, h2, T.drop (hT.swap List.perm_middle)⟩
theorem Rf.drew (h : Rf p a F w0 w X) : Rf p a F w0 w.drew X := by
  obtain ⟨R, h1, h2, hT⟩ := h
  exact ⟨R, h1, h2, hT.drew⟩
theorem Rf.dead (h : Rf p a F w0 w X) : w.cell? (Addr.add ⟨p, 0, none⟩ 3) = some (.bool a.dead) := by
  obtain ⟨R, rfl, hA, hT⟩ := h
  rw [← hA.dead]
  exact hT.ldA (by repeat (first | exact List.Mem.head _ | refine List.Mem.tail _ ?_)) rfl
end
end Go.Proofs.YtmipjkalfodcpaaGreatDoor
end
section
/-! pages, in plain words. -/
namespace Go.Proofs.YtmipjkalfodcpaaGreatDoor
open Go.Sh Go.RowKit
set_option linter.unusedVariables false
set_option linter.unusedSimpArgs false
set_option maxRecDepth 20000
set_option maxHeartbeats 1000000
/-- a page: when, and which regions -/
structure PgV where
  ev : Nat
  bits : List UInt8
deriving DecidableEq
abbrev pgZ : PgV := ⟨0, []⟩
def magB : List UInt8 := [82, 86, 84, 66]
def encPg (p : PgV) : List UInt8 := sealB (magB ++ leB p.ev 8 ++ p.bits) 64
def encPgF (p : PgV) : List UInt8 × Int := if p.bits.length = 8 then (encPg p, 0) else ([], 1)
def decPg (b : List UInt8) : PgV × Int :=
  if b.length ≠ 64 then (pgZ, 31)
  else if (openB b).2 = false then (pgZ, 80)
  else if b.take 4 ≠ magB then (pgZ, 81)
  else if ¬ ∀ x ∈ (b.take 60).drop 20, x = 0 then (pgZ, 1)
  else (⟨leN ((b.drop 4).take 8), (b.drop 12).take 8⟩, 0)
theorem encPg_len {p : PgV} (h : p.bits.length = 8) : (encPg p).length = 64 := sealB_len (by simp [magB, leB_len, h])
theorem encPg_take {p : PgV} (h : p.bits.length = 8) : (encPg p).take 60 = magB ++ leB p.ev 8 ++ p.bits ++ List.replicate 40 0 := by
  unfold encPg sealB
  have hl : (padB (magB ++ leB p.ev 8 ++ p.bits) (64 - 4)).length = 60 := padB_len (by simp [magB, leB_len, h])
  rw [List.take_append_of_le_length (by omega), List.take_of_length_le (by omega)]
  unfold padB
  congr 2
  simp [magB, leB_len, h]
theorem encPg_open {p : PgV} (h : p.bits.length = 8) : (openB (encPg p)).2 = true := by
  unfold encPg
  rw [open_seal (by simp [magB, leB_len, h])]
theorem decPg_enc {p : PgV} (h : p.bits.length = 8) (he : p.ev < 2 ^ 64) : decPg (encPg p) = (p, 0) := by
  have hl := encPg_len h
  have ht := encPg_take h
  have pre : ∀ n m, m + n ≤ 60 → ((encPg p).drop m).take n = ((magB ++ leB p.ev 8 ++ p.bits ++ List.replicate 40 0).drop m).take n := fun n m hnm => by
    rw [← ht, List.drop_take, List.take_take, Nat.min_eq_left (by omega)]
  have l8 := leB_len p.ev 8
  have e0 : (encPg p).take 4 = magB := by
    have := pre 4 0 (by omega)
    rw [List.drop_zero, List.drop_zero] at this
    rw [this]; rfl
  have e1 : ((encPg p).drop 4).take 8 = leB p.ev 8 := by
    rw [pre 8 4 (by omega)]
    have : (magB ++ leB p.ev 8 ++ p.bits ++ List.replicate 40 0).drop 4 = leB p.ev 8 ++ (p.bits ++ List.replicate 40 0) := by
      rw [List.append_assoc, List.append_assoc]; exact List.drop_left' rfl
    rw [this]; exact List.take_left' l8
  have e2 : ((encPg p).drop 12).take 8 = p.bits := by
    rw [pre 8 12 (by omega)]
    have : (magB ++ leB p.ev 8 ++ p.bits ++ List.replicate 40 0).drop 12 = p.bits ++ List.replicate 40 0 := by
      rw [List.append_assoc]; exact List.drop_left' (by simp [magB, l8])
    rw [this]; exact List.take_left' h
  have e3 : ((encPg p).take 60).drop 20 = List.replicate 40 0 := by
    rw [ht]; exact List.drop_left' (by simp [magB, l8, h])
  unfold decPg
  rw [if_neg (by omega), if_neg (by rw [encPg_open h]; decide), if_neg (fun hn => hn e0), if_neg (fun hn => hn (by rw [e3]; intro x hx; exact List.eq_of_mem_replicate hx)), e1, e2, leN_leB 8 p.ev (by simpa using he)]
theorem decPg_ev (b : List UInt8) : (decPg b).1.ev < 2 ^ 64 := by
  unfold decPg
  split
  · decide
  · split
    · decide
    · split
      · decide
      · split
        · decide
        · have := leN_lt ((b.drop 4).take 8)
          have h8 : ((b.drop 4).take 8).length ≤ 8 := by rw [List.length_take]; omega
          have : 256 ^ ((b.drop 4).take 8).length ≤ 256 ^ 8 := Nat.pow_le_pow_right (by decide) h8
          show leN _ < 2 ^ 64
          have e : (256 : Nat) ^ 8 = 2 ^ 64 := by decide
          omega
theorem decPg_bits {b : List UInt8} (h : (decPg b).2 = 0) : (decPg b).1.bits.length = 8 := by
  unfold decPg at h ⊢
  split at h
  · cases h
  · rename_i hl
    rw [if_neg hl]
    split at h
    · cases h
    · rename_i h1
      rw [if_neg h1]
      split at h
      · cases h
      · rename_i h2
        rw [if_neg h2]
        split at h
        · cases h
        · rename_i h3
          rw [if_neg h3]
          show ((b.drop 12).take 8).length = 8
          rw [List.length_take, List.length_drop]; omega
theorem decPg_bad {b : List UInt8} (h : (decPg b).2 ≠ 0) : (decPg b).1 = pgZ := by
  unfold decPg at h ⊢
  split
  · rfl
  · rename_i hl
    rw [if_neg hl] at h
    split
    · rfl
    · rename_i h1
      rw [if_neg h1] at h
      split
      · rfl
      · rename_i h2
        rw [if_neg h2] at h
        split
        · rfl
        · rename_i h3
          rw [if_neg h3] at h
          exact absurd rfl h
/-- what Save makes of a drive -/
def savePg (a : AD) (p : PgV) : AD × Int :=
  if p.bits.length ≠ 8 then (a, 1)
  else if a.put 2 (strB (encPg p)) ≠ 0 then (a, a.put 2 (strB (encPg p)))
  else ((a.write 2 (strB (encPg p))).flush, (a.write 2 (strB (encPg p))).flush1)
def loadPg (a : AD) : PgV × Int := if (a.read 2).2 ≠ 0 then (pgZ, (a.read 2).2) else decPg (a.read 2).1.data.toList
end Go.Proofs.YtmipjkalfodcpaaGreatDoor
end
section
/-! pack: Size, Fits, places. -/
namespace Go.Proofs.YtmipjkalfodcpaaGreatDoor
open Go.Sh Go.RowKit
set_option linter.unusedVariables false
set_option maxRecDepth 20000
set_option maxHeartbeats 1000000
def ints (ws : List Nat) : List Value := ws.map fun (x : Nat) => .int .i64 (x : Int)
def u64s (ns : List Nat) : List Value := ns.map fun (x : Nat) => .int .u64 (x : Int)
theorem ints_get {ws : List Nat} {i x : Nat} (h : ws[i]? = some x) : (ints ws)[i]? = some (.int .i64 (x : Int)) := by simp [ints, h]
theorem u64s_get {ws : List Nat} {i x : Nat} (h : ws[i]? = some x) : (u64s ws)[i]? = some (.int .u64 (x : Int)) := by simp [u64s, h]
/-- widths that may be -/
def Wid (ws : List Nat) : Prop := ws.length ≤ 64 ∧ ∀ x ∈ ws, 1 ≤ x ∧ x ≤ 8
theorem Wid.at {ws : List Nat} (h : Wid ws) {i x : Nat} (hi : ws[i]? = some x) : 1 ≤ x ∧ x ≤ 8 := h.2 x (List.mem_of_getElem? hi)
theorem widsum_le : ∀ (ws : List Nat), (∀ x ∈ ws, 1 ≤ x ∧ x ≤ 8) → ws.sum ≤ 8 * ws.length
  | [], _ => by simp
  | w :: ws, h => by
    have := widsum_le ws fun x hx => h x (List.mem_cons_of_mem _ hx)
    have := h w List.mem_cons_self
    simp only [List.sum_cons, List.length_cons]; omega
theorem Wid.sum {ws : List Nat} (h : Wid ws) : ws.sum ≤ 512 := by
  have h1 := widsum_le ws h.2
  have h2 := h.1
  omega
/-- a row of widths, to be read in this world -/
def readsW (w : World) (g : Option Nat) (ws : List Nat) : Prop := ∀ (j x : Nat), ws[j]? = some x → ∃ b, g = some b ∧ w.cell? ⟨b, j, none⟩ = some (.int .i64 (x : Int))
theorem T.readsW {F : List Nat} {w0 w : World} {Γ : List A} {g : Option Nat} {n cap : Nat} {ws : List Nat} (hT : T F w0 w Γ) (hm : rowP 3 1 g n cap (ints ws) ∈ Γ) : readsW w g ws := by
  intro j x hx
  have hs := hT.says hm
  have hl : ws.length = n := by have := rowP.len hs; simpa [ints] using this
  have hj := (List.getElem?_eq_some_iff.1 hx).1
  obtain ⟨b, rfl⟩ := rowP.pos hs (by omega)
  exact ⟨b, rfl, rowP.cell hs (ints_get hx)⟩
theorem size_spec {ws : List Nat} (hv : Wid ws) {w : World} {g : Option Nat} {cap : Nat} (hm : readsW w g ws) : Ret Tryz.prog 54 #[.slice (ptr g) ws.length cap] w (.tuple #[.int .i64 (ws.sum : Int), .int .i64 0]) := by
  refine ret_of (pack_Size_calls ?_)
  unfold pack_Size
  have hs := hv.sum
  have hl := hv.1
  refine ⟨fun vs w' => w' = w ∧ ∃ i : Nat, vs = [.int .i64 (wsum ws i : Int), .int .i64 (i : Int)] ∧ i ≤ ws.length, fun vs _ => match vs with | [_, .int _ i] => (ws.length - i).toNat | _ => 0, ⟨rfl, 0, rfl, by omega⟩, ?_⟩
  rintro vs w1 ⟨rfl, i, rfl, hi⟩
  refine ⟨_, _, rfl, dec_t fun hlt => ?_, dec_f fun hge => ?_⟩
  · have hlt : i < ws.length := by omega
    obtain ⟨b, rfl, hc⟩ := hm i ws[i] (by simp [hlt])
    have hx := hv.at (i := i) (x := ws[i]) (by simp [hlt])
    have hst := wsum_step (ws := ws) (i := i) (x := ws[i]) (by simp [hlt])
    have hmx := wsum_max (ws := ws) (i + 1)
    refine ⟨_, rfl, by omega, by omega, (ws[i] : Int), by rw [addr_add, Nat.zero_add, Nat.mul_one, Int.toNat_natCast]; exact hc, no (decide_eq_false (by omega)) (no (decide_eq_false (by omega)) ⟨⟨rfl, i + 1, ?_, by omega⟩, ?_⟩)⟩
    · rw [wrap64 _ (by omega) (by omega), wrap64 _ (by omega) (by omega), hst]; simp
    · show ((ws.length : Int) - IntKind.i64.wrap ((i : Int) + 1)).toNat < ((ws.length : Int) - (i : Int)).toNat
      rw [wrap64 _ (by omega) (by omega)]; omega
  · have hie : i = ws.length := by omega
    subst hie
    rw [wsum_all ws (Nat.le_refl _)]
    exact no (decide_eq_false (by omega)) ⟨rfl, Ext.refl _⟩
theorem fits_spec (n x : Nat) (hn : n < 256 ^ x) (hx : 1 ≤ x ∧ x ≤ 8) (w : World) : Ret Tryz.prog 55 #[.int .u64 (n : Int), .int .i64 (x : Int)] w (.bool true) := by
  refine ret_of (pack_Fits_calls ?_)
  unfold pack_Fits
  refine ⟨fun _ => ⟨rfl, Ext.refl w⟩, fun h8 => yes (decide_eq_true (by omega)) ?_⟩
  have h8 : (x : Int) ≠ 8 := by simpa using h8
  refine yes (decide_eq_true (by omega)) ⟨by rw [wrap64 _ (by omega) (by omega)]; omega, ?_, Ext.refl w⟩
  rw [wrap64 _ (by omega) (by omega), show (8 * (x : Int)).toNat = 8 * x by omega, Nat.min_eq_left (by omega), Int.fdiv_eq_ediv_of_nonneg _ (Int.le_of_lt (Int.pow_pos (by decide)))]
  have h1 : n / 2 ^ (8 * x) = 0 := by
    rw [Nat.div_eq_of_lt]
    rw [Nat.pow_mul]; exact hn
  have h2 : ((n : Int) / 2 ^ (8 * x)) = ((n / 2 ^ (8 * x) : Nat) : Int) := by push_cast; rfl
  rw [h2, h1]
  rfl
theorem fits_not (n x : Nat) (hn : ¬ n < 256 ^ x) (hx : 1 ≤ x ∧ x ≤ 7) (w : World) : Ret Tryz.prog 55 #[.int .u64 (n : Int), .int .i64 (x : Int)] w (.bool false) := by
  refine ret_of (pack_Fits_calls ?_)
  unfold pack_Fits
  refine no (by simp; omega) (yes (decide_eq_true (by omega)) (yes (decide_eq_true (by omega)) ⟨by rw [wrap64 _ (by omega) (by omega)]; omega, ?_, Ext.refl w⟩))
  rw [wrap64 _ (by omega) (by omega), show (8 * (x : Int)).toNat = 8 * x by omega, Nat.min_eq_left (by omega), Int.fdiv_eq_ediv_of_nonneg _ (Int.le_of_lt (Int.pow_pos (by decide)))]
  have h1 : n / 2 ^ (8 * x) ≠ 0 := by
    intro h
    have := (Nat.div_eq_zero_iff.1 h).resolve_left (by have := Nat.two_pow_pos (8 * x); omega)
    rw [Nat.pow_mul] at this
    exact hn this
  have h2 : ((n : Int) / 2 ^ (8 * x)) = ((n / 2 ^ (8 * x) : Nat) : Int) := by push_cast; rfl
  rw [h2]
  have : (((n / 2 ^ (8 * x) : Nat) : Int) == 0) = false := by simp; omega
  rw [this]
/-- the m-th place: whose it is, how far up -/
def placeL : List Nat → Nat → List (Nat × Nat)
  | [], _ => []
  | w :: ws, i => ((List.range w).map fun k => (i, 8 * k)) ++ placeL ws (i + 1)
theorem placeL_len : ∀ (ws : List Nat) (i : Nat), (placeL ws i).length = ws.sum
  | [], _ => rfl
  | w :: ws, i => by simp [placeL, placeL_len ws (i + 1)]
theorem placeL_get : ∀ (ws : List Nat) (o i k x : Nat), ws[i]? = some x → k < x → (placeL ws o)[wsum ws i + k]? = some (o + i, 8 * k)
  | [], _, _, _, _, h, _ => by simp at h
  | w :: ws, o, 0, k, x, h, hk => by
    simp only [List.getElem?_cons_zero, Option.some.injEq] at h
    subst h
    simp only [placeL, wsum_zero, Nat.zero_add]
    rw [List.getElem?_append_left (by simpa using hk)]
    simp [hk]
  | w :: ws, o, i + 1, k, x, h, hk => by
    simp only [List.getElem?_cons_succ] at h
    simp only [placeL, wsum_cons]
    rw [List.getElem?_append_right (by simp; omega)]
    simp only [List.length_map, List.length_range]
    rw [show w + wsum ws i + k - w = wsum ws i + k by omega, placeL_get ws (o + 1) i k x h hk]
    congr 2; omega
theorem placeL_inv : ∀ (ws : List Nat) (o m : Nat), m < ws.sum → ∃ i k x, ws[i]? = some x ∧ k < x ∧ m = wsum ws i + k
  | [], _, m, h => by simp at h
  | w :: ws, o, m, h => by
    by_cases hm : m < w
    · exact ⟨0, m, w, rfl, hm, by simp [wsum]⟩
    · simp only [List.sum_cons] at h
      obtain ⟨i, k, x, h1, h2, h3⟩ := placeL_inv ws o (m - w) (by omega)
      exact ⟨i + 1, k, x, by simpa using h1, h2, by rw [wsum_cons]; omega⟩
/-- the arguments of the m-th call -/
def placeA (ws : List Nat) (m : Nat) : List Value := match (placeL ws 0)[m]? with | some (i, up) => [.int .i64 (i : Int), .int .i64 (up : Int)] | none => []
theorem placeA_get {ws : List Nat} {i k x : Nat} (h : ws[i]? = some x) (hk : k < x) : placeA ws (wsum ws i + k) = [.int .i64 (i : Int), .int .i64 ((8 * k : Nat) : Int)] := by
  unfold placeA
  rw [placeL_get ws 0 i k x h hk, Nat.zero_add]
theorem places_spec {ws : List Nat} (hv : Wid ws) {g : Option Nat} {cap : Nat} {k1 : Addr} {yv : Value} {J : Nat → World → Prop}
    (hrd : ∀ m W, J m W → W.cell? k1 = some (.slice (ptr g) ws.length cap) ∧ readsW W g ws)
    (hcall : ∀ m W, m < ws.sum → J m W → CallF Tryz.prog yv (placeA ws m) W fun e w' => e = .returned (.bool true) ∧ J (m + 1) w') (W : World) (h0 : J 0 W) :
    Calls Tryz.prog 73 #[yv, .pointer (some k1)] W fun e w' => (∃ v, e = .returned v) ∧ J ws.sum w' := by
  refine (pack_places_1_calls (R := fun v w' => J ws.sum w') ?_).mono fun e w' ⟨v, he, h⟩ => ⟨⟨v, he⟩, h⟩
  unfold pack_places_1
  have hs := hv.sum
  have hl := hv.1
  refine ⟨_, _, _, (hrd 0 W h0).1, ?_⟩
  refine ⟨fun vs w' => ∃ i : Nat, vs = [.int .i64 (i : Int)] ∧ i ≤ ws.length ∧ J (wsum ws i) w', fun vs _ => match vs with | [.int _ i] => (ws.length - i).toNat | _ => 0, ⟨0, rfl, by omega, h0⟩, ?_⟩
  rintro vs w1 ⟨i, rfl, hi, hJ⟩
  refine ⟨_, rfl, dec_t fun hlt => ?_, dec_f fun hge => ?_⟩
  · have hlt : i < ws.length := by omega
    have hx : ws[i]? = some ws[i] := by simp [hlt]
    obtain ⟨b, rfl, hc⟩ := (hrd _ _ hJ).2 i ws[i] hx
    have h8 := hv.at hx
    have hst := wsum_step hx
    have hmx := wsum_max (ws := ws) (i + 1)
    refine ⟨_, rfl, by omega, by omega, (ws[i] : Int), by rw [addr_add, Nat.zero_add, Nat.mul_one, Int.toNat_natCast]; exact hc, ?_⟩
    refine ⟨fun vs w' => ∃ k : Nat, vs = [.int .i64 (k : Int)] ∧ k ≤ ws[i] ∧ J (wsum ws i + k) w', fun vs _ => match vs with | [.int _ k] => (ws[i] - k).toNat | _ => 0, ⟨0, rfl, by omega, hJ⟩, ?_⟩
    rintro vs w2 ⟨k, rfl, hk, hJ2⟩
    refine ⟨_, rfl, dec_t fun hkl => ?_, dec_f fun hkg => ?_⟩
    · have hkl : k < ws[i] := by omega
      have ha : [Value.int .i64 (i : Int), .int .i64 (IntKind.i64.wrap (8 * (k : Int)))] = placeA ws (wsum ws i + k) := by
        rw [placeA_get hx hkl, wrap64 _ (by omega) (by omega)]
        push_cast; rfl
      rw [ha]
      have := hcall (wsum ws i + k) w2 (by omega) hJ2
      refine CallF.mono this fun e w3 ⟨he, hJ3⟩ => ⟨true, he, ?_, ?_⟩
      · intro h; cases h
      · intro _
        refine ⟨⟨k + 1, ?_, by omega, hJ3⟩, ?_⟩
        · rw [wrap64 _ (by omega) (by omega)]; rfl
        · show ((ws[i] : Int) - IntKind.i64.wrap ((k : Int) + 1)).toNat < ((ws[i] : Int) - (k : Int)).toNat
          rw [wrap64 _ (by omega) (by omega)]; omega
    · have hke : k = ws[i] := by omega
      subst hke
      rw [← hst] at hJ2
      refine ⟨⟨i + 1, ?_, by omega, hJ2⟩, ?_⟩
      · rw [wrap64 _ (by omega) (by omega)]; rfl
      · show ((ws.length : Int) - IntKind.i64.wrap ((i : Int) + 1)).toNat < ((ws.length : Int) - (i : Int)).toNat
        rw [wrap64 _ (by omega) (by omega)]; omega
  · have hie : i = ws.length := by omega
    subst hie
    rwa [wsum_all ws (Nat.le_refl _)] at hJ
end Go.Proofs.YtmipjkalfodcpaaGreatDoor
end
section
/-! pack: Encode. -/
namespace Go.Proofs.YtmipjkalfodcpaaGreatDoor
open Go.Sh Go.RowKit
set_option linter.unusedVariables false
set_option maxRecDepth 20000
set_option maxHeartbeats 1000000
theorem u64s_len (ns : List Nat) : (u64s ns).length = ns.length := List.length_map ..
theorem ints_len (ns : List Nat) : (ints ns).length = ns.length := List.length_map ..
theorem encP_take_step {ns ws : List Nat} {i k v x : Nat} (hw : ws[i]? = some x) (hn : ns[i]? = some v) (hk : k < x) : (encP ns ws).take (wsum ws i + k + 1) = (encP ns ws).take (wsum ws i + k) ++ [UInt8.ofNat (v / 2 ^ (8 * k))] := by
  rw [List.take_add_one, encP_get ns ws i k v x hw hn hk]; rfl
theorem encode_spec {ns ws : List Nat} (hv : Wid ws) (hl : ns.length = ws.length) (hf : ∀ (i n x : Nat), ns[i]? = some n → ws[i]? = some x → n < 256 ^ x) {F : List Nat} {w0 w : World} {Γ : List A} (hT : T F w0 w Γ) {g1 g2 : Option Nat} {n1 n2 c1 c2 : Nat} (hn1 : n1 = ns.length) (hn2 : n2 = ws.length)
    (hm1 : rowP 23 1 g1 n1 c1 (u64s ns) ∈ Γ) (hm2 : rowP 3 1 g2 n2 c2 (ints ws) ∈ Γ) :
    Calls Tryz.prog 38 #[.slice (ptr g1) n1 c1, .slice (ptr g2) n2 c2] w fun e w' => e = .returned (.tuple #[.string (strB (encP ns ws)), .int .i64 0]) ∧ T F w0 w' Γ := by
  subst hn1; subst hn2
  refine (pack_Encode_calls (R := fun v w' => v = .tuple #[.string (strB (encP ns ws)), .int .i64 0] ∧ T F w0 w' Γ) ?_).mono fun e w' ⟨v, he, hv, h⟩ => ⟨by rw [he, hv], h⟩
  unfold pack_Encode
  have hs := hv.sum
  have hw64 := hv.1
  refine Alloc.t hT fun k2 w1 h1 => ?_
  refine (size_spec hv (T.readsW h1 (List.mem_cons_of_mem _ hm2))).mono fun e w2 ⟨he, hx⟩ => ⟨_, _, he, no rfl ?_⟩
  have h2 := h1.quiet hx
  refine ⟨_, _, _, h2.ld List.mem_cons_self rfl, no (by rw [hl]; simp) ?_⟩
  refine ⟨fun vs w' => ∃ i : Nat, vs = [.string (ByteArray.mk #[]), .int .i64 0, .int .i64 (i : Int)] ∧ i ≤ ws.length ∧ T F w0 w' (blk k2 #[.slice (ptr g1) ns.length c1] 82 :: Γ), fun vs _ => match vs with | [_, _, .int _ i] => (ws.length - i).toNat | _ => 0, ⟨0, rfl, by omega, h2⟩, ?_⟩
  rintro vs w3 ⟨i, rfl, hi, h3⟩
  refine ⟨_, _, _, rfl, dec_t fun hlt => ?_, dec_f fun hge => ?_⟩
  · have hlt : i < ws.length := by omega
    have hx : ws[i]? = some ws[i] := by simp [hlt]
    have hn : ns[i]? = some (ns[i]'(by omega)) := by simp [hl, hlt]
    obtain ⟨b2, rfl, _, hc2⟩ := T.cell1 h3 (List.mem_cons_of_mem _ hm2) (ints_get hx)
    obtain ⟨b1, rfl, _, hc1⟩ := T.cell1 h3 (List.mem_cons_of_mem _ hm1) (u64s_get hn)
    refine ⟨_, rfl, by omega, by omega, _, by rw [Int.toNat_natCast]; exact hc2, _, _, _, h3.ld List.mem_cons_self rfl, _, rfl, by omega, by omega, _, by rw [Int.toNat_natCast]; exact hc1, ?_⟩
    refine (fits_spec _ _ (hf i _ _ hn hx) (hv.at hx) w3).mono fun e w4 ⟨he, hx4⟩ => ⟨_, he, fun h => (by cases h), fun _ => ⟨⟨i + 1, ?_, by omega, h3.quiet hx4⟩, ?_⟩⟩
    · rw [wrap64 _ (by omega) (by omega)]; rfl
    · show ((ws.length : Int) - IntKind.i64.wrap ((i : Int) + 1)).toNat < ((ws.length : Int) - (i : Int)).toNat
      rw [wrap64 _ (by omega) (by omega)]; omega
  · obtain ⟨k4, w5, hmk, h5⟩ := make_t (P := Tryz.prog) (t := 80) (e := 5) (i := Tryz.t5) (z := .int .u8 0) (kl := .i64) (kc := .i64) (n := 0) (c := (ws.sum : Int)) (by kernel_rfl) (by kernel_rfl) (by kernel_rfl) (by kernel_rfl) (by rfl) (by kernel_rfl) (by omega) (by omega) (by omega) h3
    simp only [Int.toNat_zero, Int.toNat_natCast] at hmk h5
    refine ⟨_, _, _, w5, hmk, ?_⟩
    refine Alloc.t h5 fun k10 w6 h6 => St.t h6 .head (by simp) (by rfl) rfl fun w7 h7 => ?_
    refine (pack_places_calls (R := fun v w' => ∃ k1, v = .func (.func 73) #[] #[.pointer (some ⟨k1, 0, none⟩)] ∧ T F w0 w' (blk k1 #[.slice (ptr g2) ws.length c2] 83 :: blk k10 #[.slice (ptr (some k4)) 0 ws.sum] 80 :: rowP 5 1 (some k4) 0 ws.sum [] :: blk k2 #[.slice (ptr g1) ns.length c1] 82 :: Γ)) ?_).mono ?_
    · unfold pack_places
      exact Alloc.t h7 fun k1 w8 h8 => ⟨k1, rfl, h8⟩
    · rintro e w8 ⟨v, he, k1, rfl, h8⟩
      refine ⟨_, he, ?_⟩
      refine RangeP.t (by kernel_rfl) h8 (N := ws.sum) (arg := placeA ws)
        (Inv := fun m Γm => ∃ g cap, Γm = blk k1 #[.slice (ptr g2) ws.length c2] 83 :: blk k10 #[.slice (ptr g) m cap] 80 :: rowP 5 1 g m cap (bvals ((encP ns ws).take m)) :: blk k2 #[.slice (ptr g1) ns.length c1] 82 :: Γ)
        ⟨some k4, ws.sum, rfl⟩ ?_ ?_ ?_
      · intro yv J hJ hc W hW
        refine places_spec hv (J := J) (g := g2) (cap := c2) (fun m W hm => ?_) hc W hW
        obtain ⟨Γk, x, y, ⟨g, cap, rfl⟩, h⟩ := hJ m W hm
        exact ⟨h.ld (List.mem_cons_of_mem _ (List.mem_cons_of_mem _ List.mem_cons_self)) rfl, T.readsW h (List.mem_cons_of_mem _ (List.mem_cons_of_mem _ (List.mem_cons_of_mem _ (List.mem_cons_of_mem _ (List.mem_cons_of_mem _ (List.mem_cons_of_mem _ hm2))))))⟩
      · rintro obf l d m Γk W Φ hm ⟨g, cap, rfl⟩ hW hΦ
        obtain ⟨i, k, x, hx, hk, rfl⟩ := placeL_inv ws 0 m hm
        have h8 := hv.at hx
        have hil : i < ws.length := (List.getElem?_eq_some_iff.1 hx).1
        have hn : ns[i]? = some (ns[i]'(by omega)) := by simp [hl, hil]
        generalize ns[i]'(by omega) = v at hn
        rw [placeA_get hx hk]
        refine ⟨_, _, rfl, ?_⟩
        refine RoundP.t hW (G := fun Γ' => ∃ Γ'', Γ' = ob d (.deferred (some [])) :: Γ'' ∧ ∃ g cap, Γ'' = blk k1 #[.slice (ptr g2) ws.length c2] 83 :: blk k10 #[.slice (ptr g) (wsum ws i + k + 1) cap] 80 :: rowP 5 1 g (wsum ws i + k + 1) cap (bvals ((encP ns ws).take (wsum ws i + k + 1))) :: blk k2 #[.slice (ptr g1) ns.length c1] 82 :: Γ) ?_ ?_
        · rintro Γ' w' ⟨Γ'', rfl, hi'⟩ h'
          exact hΦ Γ'' w' hi' h'
        · intro K X R w9 h9 hK
          obtain ⟨b1, rfl, _, _⟩ := T.cell1 h9 (List.mem_cons_of_mem _ (List.mem_cons_of_mem _ (List.mem_cons_of_mem _ (List.mem_cons_of_mem _ (List.mem_cons_of_mem _ (List.mem_cons_of_mem _ hm1)))))) (u64s_get hn)
          have hD : ∀ {w : World} {Γ' : List A}, T F w0 w Γ' → blk k10 #[.slice (ptr g) (wsum ws i + k) cap] 80 ∈ Γ' → blk k2 #[.slice (ptr (some b1)) ns.length c1] 82 ∈ Γ' → rowP 23 1 (some b1) ns.length c1 (u64s ns) ∈ Γ' →
              (w.cell? ⟨k10, 0, none⟩ = some (.slice (ptr g) (wsum ws i + k) cap) ∧ w.cell? ⟨k2, 0, none⟩ = some (.slice (ptr (some b1)) ns.length c1) ∧ w.cell? (Addr.add ⟨b1, 0, none⟩ (i * 1)) = some (.int .u64 (v : Int))) := by
            intro w Γ' h m1 m2 m3
            obtain ⟨b', hb', _, hc⟩ := T.cell1 h m3 (u64s_get hn)
            cases hb'
            exact ⟨h.ld m1 rfl, h.ld m2 rfl, hc⟩
          have hbyte : IntKind.u8.wrap (Int.fdiv (v : Int) (2 ^ (min ((8 * k : Nat) : Int).toNat 64))) = ((UInt8.ofNat (v / 2 ^ (8 * k))).toNat : Int) := by
            rw [Int.toNat_natCast, Nat.min_eq_left (by omega), Int.fdiv_eq_ediv_of_nonneg _ (Int.le_of_lt (Int.pow_pos (by decide))), wrap8]
            have : ((v : Int) / 2 ^ (8 * k)) = ((v / 2 ^ (8 * k) : Nat) : Int) := by push_cast; rfl
            rw [this]
            simp
          have hmx := wsum_max (ws := ws) (i + 1)
          have hst := wsum_step hx
          refine ⟨fun w => w.cell? ⟨k10, 0, none⟩ = some (.slice (ptr g) (wsum ws i + k) cap) ∧ w.cell? ⟨k2, 0, none⟩ = some (.slice (ptr (some b1)) ns.length c1) ∧ w.cell? (Addr.add ⟨b1, 0, none⟩ (i * 1)) = some (.int .u64 (v : Int)), hD h9.drew (by repeat (first | exact List.Mem.head _ | refine List.Mem.tail _ ?_)) (by repeat (first | exact List.Mem.head _ | refine List.Mem.tail _ ?_)) (by repeat (first | exact hm1 | refine List.mem_cons_of_mem _ ?_)),
            _, _, _, fun w h => h.1, _, _, _, fun w h => h.2.1, _, rfl, by omega, by omega, _, fun w h => by rw [Int.toNat_natCast]; exact h.2.2, by omega, ?_⟩
          rw [hbyte]
          refine Alloc.t h9.drew fun k57 w10 h10 => ⟨hD h10 (by repeat (first | exact List.Mem.head _ | refine List.Mem.tail _ ?_)) (by repeat (first | exact List.Mem.head _ | refine List.Mem.tail _ ?_)) (by repeat (first | exact hm1 | refine List.mem_cons_of_mem _ ?_)), ?_⟩
          obtain ⟨g', cap', w11, hr, h11⟩ := append_t (P := Tryz.prog) (t := 80) (ty := 80) (e := 5) (i := Tryz.t5) (z := .int .u8 0) (size := 1) #[false, false] (by kernel_rfl) (by kernel_rfl) (by kernel_rfl) (by kernel_rfl) (by rfl)
            h10 (.tail (.tail (.tail (.tail (.tail .head))))) (a := ⟨k57, 0, none⟩) (m := 1) (c := 1) (news := bvals [UInt8.ofNat (v / 2 ^ (8 * k))]) rfl (fun j u hu => by
              rw [addr_add, Nat.zero_add]
              exact h10.ld (by repeat (first | exact List.Mem.head _ | refine List.Mem.tail _ ?_)) (by simpa [bvals] using hu)) (bvals_one _) (by simp only [maxLen]; omega)
            (by have : (Tryz.t5).bytes = 1 := by kernel_rfl
                rw [this]; omega)
          rw [bvals_append, ← encP_take_step hx hn hk] at h11
          refine ⟨_, _, _, w11, hr, hD h11 (by repeat (first | exact List.Mem.head _ | refine List.Mem.tail _ ?_)) (by repeat (first | exact List.Mem.head _ | refine List.Mem.tail _ ?_)) (by repeat (first | exact hm1 | refine List.mem_cons_of_mem _ ?_)), ?_⟩
          refine St.t h11 (by repeat (first | exact Turn.head | apply Turn.tail)) (by simp) (by rfl) rfl fun w12 h12 => hK (ob d (.deferred (some [])) :: _) w12 ⟨_, rfl, g', cap', rfl⟩ ?_
          exact (T.dropAt h12 (.tail .head)).swap (Pick.perm (.tail (.tail (.tail (.tail .head))))).symm
      · rintro d Γ' w' ⟨g, cap, rfl⟩ h'
        rw [List.take_of_length_le (by rw [encP_len ns ws hl]; exact Nat.le_refl _)] at h'
        refine ⟨_, _, _, h'.ld (by repeat (first | exact List.Mem.head _ | refine List.Mem.tail _ ?_)) rfl, _, w', row_string h' (by repeat (first | exact List.Mem.head _ | refine List.Mem.tail _ ?_)), ?_⟩
        exact shut_mark (Q := fun w2 => _ = _ ∧ T F w0 w2 Γ) h' fun w2 h2 => ⟨rfl, h2.drop.drop.drop.drop⟩
end Go.Proofs.YtmipjkalfodcpaaGreatDoor
end
section
/-! pack: Decode. -/
namespace Go.Proofs.YtmipjkalfodcpaaGreatDoor
open Go.Sh Go.RowKit
set_option linter.unusedVariables false
set_option maxRecDepth 20000
set_option maxHeartbeats 1000000
def curL (s : List UInt8) (ws : List Nat) (m : Nat) : List Nat := (List.range ws.length).map (curP s ws m)
theorem curL_len (s : List UInt8) (ws : List Nat) (m : Nat) : (curL s ws m).length = ws.length := by simp [curL]
theorem curL_get (s : List UInt8) (ws : List Nat) (m : Nat) {i : Nat} (hi : i < ws.length) : (curL s ws m)[i]? = some (curP s ws m i) := by simp [curL, hi]
theorem curL_zero (s : List UInt8) (ws : List Nat) : u64s (curL s ws 0) = List.replicate ws.length (Value.int .u64 0) := by
  unfold u64s curL
  rw [List.map_map]
  apply List.ext_getElem?
  intro j
  rw [List.getElem?_replicate]
  by_cases hj : j < ws.length
  · simp [hj, curP_zero]
  · simp [hj]
theorem curL_all (s : List UInt8) (ws : List Nat) : curL s ws ws.sum = decP s ws := by
  apply List.ext_getElem?
  intro j
  by_cases hj : j < ws.length
  · have h : ws[j]? = some ws[j] := by simp [hj]
    rw [curL_get s ws _ hj, decP_get ws s j _ h, curP_all s h]
  · rw [List.getElem?_eq_none (by rw [curL_len]; omega), List.getElem?_eq_none (by rw [decP_len]; omega)]
theorem curL_step (s : List UInt8) {ws : List Nat} {i k x : Nat} (h : ws[i]? = some x) (hk : k < x) : (u64s (curL s ws (wsum ws i + k))).set i (.int .u64 (curP s ws (wsum ws i + k + 1) i : Int)) = u64s (curL s ws (wsum ws i + k + 1)) := by
  have hi := (List.getElem?_eq_some_iff.1 h).1
  apply List.ext_getElem?
  intro j
  rw [List.getElem?_set]
  by_cases hj : j < ws.length
  · rw [u64s_get (curL_get s ws (wsum ws i + k + 1) hj)]
    split
    · rename_i e; subst e
      rw [if_pos (by rw [u64s_len, curL_len]; exact hi)]
    · rename_i e
      rw [u64s_get (curL_get s ws (wsum ws i + k) hj), curP_other s h hk (fun e' => e e'.symm)]
  · rw [if_neg (by omega), List.getElem?_eq_none (by rw [u64s_len, curL_len]; omega), List.getElem?_eq_none (by rw [u64s_len, curL_len]; omega)]
theorem ints_take (ws : List Nat) (n x : Nat) (h : ws[n]? = some x) : ints (ws.take n) ++ [.int .i64 (x : Int)] = ints (ws.take (n + 1)) := by
  unfold ints
  rw [List.take_add_one, h]
  simp
theorem u64s_take (ws : List Nat) (n x : Nat) (h : ws[n]? = some x) : u64s (ws.take n) ++ [.int .u64 (x : Int)] = u64s (ws.take (n + 1)) := by
  unfold u64s
  rw [List.take_add_one, h]
  simp
theorem decode_spec {ws : List Nat} (hv : Wid ws) {s : ByteArray} (hsz : s.size = ws.sum) {F : List Nat} {w0 w : World} {Γ : List A} (hT : T F w0 w Γ) {g2 : Option Nat} {n2 c2 : Nat} (hn2 : n2 = ws.length)
    (hm2 : rowP 3 1 g2 n2 c2 (ints ws) ∈ Γ) :
    Calls Tryz.prog 51 #[.string s, .slice (ptr g2) n2 c2] w fun e w' => ∃ b, e = .returned (.tuple #[.slice (ptr (some b)) ws.length ws.length, .int .i64 0]) ∧ T F w0 w' (rowP 23 1 (some b) ws.length ws.length (u64s (decP s.data.toList ws)) :: Γ) := by
  subst hn2
  refine (pack_Decode_calls (R := fun v w' => ∃ b, v = .tuple #[.slice (ptr (some b)) ws.length ws.length, .int .i64 0] ∧ T F w0 w' (rowP 23 1 (some b) ws.length ws.length (u64s (decP s.data.toList ws)) :: Γ)) ?_).mono fun e w' ⟨v, he, b, hv, h⟩ => ⟨b, by rw [he, hv], h⟩
  unfold pack_Decode
  have hs := hv.sum
  have hw64 := hv.1
  have hlen : s.data.toList.length = ws.sum := by rw [Array.length_toList]; exact hsz
  refine Alloc.t hT fun k2 w1 h1 => ?_
  refine (size_spec hv (T.readsW h1 (List.mem_cons_of_mem _ hm2))).mono fun e w2 ⟨he, hx⟩ => ⟨_, _, he, no rfl ?_⟩
  have h2 := h1.quiet hx
  refine ⟨_, h2.ld List.mem_cons_self rfl, no (by rw [hsz]; simp) ?_⟩
  obtain ⟨k5, w3, hmk, h3⟩ := make_t (P := Tryz.prog) (t := 82) (e := 23) (i := Tryz.t23) (z := .int .u64 0) (kl := .i64) (kc := .i64) (n := (ws.length : Int)) (c := (ws.length : Int)) (by kernel_rfl) (by kernel_rfl) (by kernel_rfl) (by kernel_rfl) (by rfl) (by kernel_rfl) (by omega) (by omega) (by omega) h2
  simp only [Int.toNat_natCast] at hmk h3
  have h3 : T F w0 w3 (rowP 23 1 (some k5) ws.length ws.length (u64s (curL s.data.toList ws 0)) :: blk k2 #[.string (strB (s.data.toList.drop 0))] 9 :: Γ) := by
    rw [curL_zero, List.drop_zero, strB_list]; exact h3
  refine ⟨_, _, _, w3, hmk, ?_⟩
  refine Alloc.t h3 fun k8 w4 h4 => St.t h4 .head (by simp) (by rfl) rfl fun w5 h5 => ?_
  refine (pack_places_calls (R := fun v w' => ∃ k1, v = .func (.func 73) #[] #[.pointer (some ⟨k1, 0, none⟩)] ∧ T F w0 w' (blk k1 #[.slice (ptr g2) ws.length c2] 83 :: blk k8 #[.slice (ptr (some k5)) ws.length ws.length] 82 :: rowP 23 1 (some k5) ws.length ws.length (u64s (curL s.data.toList ws 0)) :: blk k2 #[.string (strB (s.data.toList.drop 0))] 9 :: Γ)) ?_).mono ?_
  · unfold pack_places
    exact Alloc.t h5 fun k1 w8 h8 => ⟨k1, rfl, h8⟩
  · rintro e w8 ⟨v, he, k1, rfl, h8⟩
    refine ⟨_, he, ?_⟩
    refine RangeP.t (by kernel_rfl) h8 (N := ws.sum) (arg := placeA ws)
      (Inv := fun m Γm => Γm = blk k1 #[.slice (ptr g2) ws.length c2] 83 :: blk k8 #[.slice (ptr (some k5)) ws.length ws.length] 82 :: rowP 23 1 (some k5) ws.length ws.length (u64s (curL s.data.toList ws m)) :: blk k2 #[.string (strB (s.data.toList.drop m))] 9 :: Γ)
      rfl ?_ ?_ ?_
    · intro yv J hJ hc W hW
      refine places_spec hv (J := J) (g := g2) (cap := c2) (fun m W hm => ?_) hc W hW
      obtain ⟨Γk, x, y, rfl, h⟩ := hJ m W hm
      exact ⟨h.ld (by repeat (first | exact List.Mem.head _ | refine List.Mem.tail _ ?_)) rfl, T.readsW h (by repeat (first | exact hm2 | refine List.mem_cons_of_mem _ ?_))⟩
    · rintro obf l d m Γk W Φ hm rfl hW hΦ
      obtain ⟨i, k, x, hx, hk, rfl⟩ := placeL_inv ws 0 m hm
      have hx8 := hv.at hx
      have hil : i < ws.length := (List.getElem?_eq_some_iff.1 hx).1
      rw [placeA_get hx hk]
      refine ⟨_, _, rfl, ?_⟩
      refine RoundP.t hW (G := fun Γ' => Γ' = ob d (.deferred (some [])) :: blk k1 #[.slice (ptr g2) ws.length c2] 83 :: blk k8 #[.slice (ptr (some k5)) ws.length ws.length] 82 :: rowP 23 1 (some k5) ws.length ws.length (u64s (curL s.data.toList ws (wsum ws i + k + 1))) :: blk k2 #[.string (strB (s.data.toList.drop (wsum ws i + k + 1)))] 9 :: Γ) ?_ ?_
      · rintro Γ' w' rfl h'
        exact hΦ _ w' rfl h'
      · intro K X R w9 h9 hK
        have hb : s.data.toList[wsum ws i + k]? = some (s.data.toList[wsum ws i + k]'(by omega)) := by simp [hlen, hm]
        generalize s.data.toList[wsum ws i + k]'(by omega) = b at hb
        have hd0 : (s.data.toList.drop (wsum ws i + k)).getD 0 0 = b := by simp [List.getD, hb]
        have hdl : (strB (s.data.toList.drop (wsum ws i + k))).size = ws.sum - (wsum ws i + k) := by rw [strB_size, List.length_drop, hlen]
        obtain ⟨hst, hlt⟩ := curP_step hx hk hb
        have hbb := b.toNat_lt
        have hp : (256 : Nat) ^ k = 2 ^ (8 * k) := by rw [Nat.pow_mul]
        rw [hp] at hst hlt
        have hval : curP s.data.toList ws (wsum ws i + k) i + b.toNat * 2 ^ (8 * k) < 18446744073709551616 := by
          have h1 : b.toNat * 2 ^ (8 * k) ≤ 255 * 2 ^ (8 * k) := Nat.mul_le_mul_right _ (by omega)
          have h2 : (2 : Nat) ^ (8 * k) ≤ 2 ^ 56 := Nat.pow_le_pow_right (by decide) (by omega)
          have h3 : (2 : Nat) ^ 56 = 72057594037927936 := by decide
          omega
        have hwr : IntKind.u64.wrap (IntKind.u64.wrap ((b.toNat : Nat) : Int) * 2 ^ (min ((8 * k : Nat) : Int).toNat 64)) = ((b.toNat * 2 ^ (8 * k) : Nat) : Int) := by
          rw [Int.toNat_natCast, Nat.min_eq_left (by omega)]
          have e1 : IntKind.u64.wrap ((b.toNat : Nat) : Int) = ((b.toNat : Nat) : Int) := by rw [wrapU64]; omega
          have e2 : ((b.toNat : Nat) : Int) * 2 ^ (8 * k) = ((b.toNat * 2 ^ (8 * k) : Nat) : Int) := by push_cast; rfl
          rw [e1, e2, wrapU64]; omega
        have hor := or64 hlt hval
        refine ⟨fun w => T F w0 w _, h9.drew, _, _, _, fun w h => h.ld (by repeat (first | exact List.Mem.head _ | refine List.Mem.tail _ ?_)) rfl, _, rfl, by omega, by omega, (curP s.data.toList ws (wsum ws i + k) i : Int), fun w h => ?_, _, fun w h => h.ld (by repeat (first | exact List.Mem.head _ | refine List.Mem.tail _ ?_)) rfl, ((b.toNat : Nat) : Int), fun w h => ?_, by omega, _, rfl, by omega, by omega, ?_⟩
        · obtain ⟨b', hb', _, hc⟩ := T.cell1 h (e := 23) (g := some k5) (n := ws.length) (cap := ws.length) (i := i) (by repeat (first | exact List.Mem.head _ | refine List.Mem.tail _ ?_)) (u64s_get (curL_get s.data.toList ws (wsum ws i + k) hil))
          cases hb'
          rw [Int.toNat_natCast]; exact hc
        · have := index_str (P := Tryz.prog) (t := 9) (k := .i64) (n := 0) (s := strB (s.data.toList.drop (wsum ws i + k))) (w := w) (by kernel_rfl) (by omega) (by rw [hdl]; omega)
          rw [this]
          congr 4
        · rw [hwr, hor, ← hst, Int.toNat_natCast, addr_add, Nat.zero_add, Nat.mul_one]
          refine StRow.t h9.drew (.tail (.tail (.tail (.tail .head)))) (by rw [u64s_len, curL_len]; exact hil) rfl fun w10 h10 => ?_
          rw [curL_step s.data.toList hx hk] at h10
          refine ⟨_, h10.ld (by repeat (first | exact List.Mem.head _ | refine List.Mem.tail _ ?_)) rfl, _, _, slice_from (by kernel_rfl) (by omega) (by rw [hdl]; omega), ?_⟩
          have hex : (strB (s.data.toList.drop (wsum ws i + k))).extract (1 : Int).toNat (strB (s.data.toList.drop (wsum ws i + k))).size = strB (s.data.toList.drop (wsum ws i + k + 1)) := by
            rw [strB_extract, strB_size, List.drop_drop, List.take_of_length_le (by simp; omega)]
            rfl
          rw [hex]
          refine St.t h10 (by repeat (first | exact Turn.head | apply Turn.tail)) (by simp) (by rfl) rfl fun w11 h11 => hK _ w11 rfl ?_
          exact h11.swap (Pick.perm (.tail (.tail (.tail (.tail .head))))).symm
    · rintro d Γ' w' rfl h'
      rw [curL_all] at h'
      refine ⟨_, _, _, h'.ld (by repeat (first | exact List.Mem.head _ | refine List.Mem.tail _ ?_)) rfl, ?_⟩
      refine shut_mark (Q := fun w2 => ∃ b, (Value.tuple #[.slice (ptr (some k5)) ws.length ws.length, .int .i64 0]) = .tuple #[.slice (ptr (some b)) ws.length ws.length, .int .i64 0] ∧ T F w0 w2 (rowP 23 1 (some b) ws.length ws.length (u64s (decP s.data.toList ws)) :: Γ)) h' fun w2 h2 => ⟨k5, rfl, T.dropAt h2.drop.drop (.tail .head)⟩
end Go.Proofs.YtmipjkalfodcpaaGreatDoor
end
section
/-! A range over a function that leaves the function; strings.Trim of one byte. -/
namespace Go.Sh
open Go.RowKit
set_option linter.unusedVariables false
theorem RoundR.t {obf : LoopState → Option Code → Obj} {l : Nat} {Φ : Value → World → Prop} {body : (World → Prop) → (Nat → World → Prop) → (World → Prop) → World → Prop} {F : List Nat} {w0 W : World} {Γ : List A}
    (hT : T F w0 W (ob l (obf .ready none) :: Γ)) {G : List A → Prop} (hΦ : ∀ Γ' w', G Γ' → T F w0 w' (ob l (obf .done (some .ret)) :: Γ') → Φ (.bool false) w')
    (hb : ∀ K X R w1, T F w0 w1 (ob l (obf .busy none) :: Γ) → (∀ Γ' w2, G Γ' → T F w0 w2 (ob l (obf .busy none) :: Γ') → R w2) → body K X R w1) : RoundP obf l Φ body W :=
  ⟨hT.got List.mem_cons_self, hb _ _ _ _ hT.putTop fun Γ' w2 hg h2 => ⟨h2.got List.mem_cons_self, hΦ Γ' _ hg h2.putTop⟩⟩
/-- the callee writes, too; the N-th round leaves the function -/
theorem RangeR.t {P : Program} {round : (LoopState → Option Code → Obj) → Nat → List Value → World → (Value → World → Prop) → Prop} {os : List (Nat × (Nat → World → Prop))} {K R : Nat → World → Prop} {f : FuncId} {first cap : Array Value} (hb : bodyB P f = true)
    {F : List Nat} {w0 w : World} {Γ : List A} (hT : T F w0 w Γ) {N : Nat} {arg : Nat → List Value} {Inv Mid : Nat → List A → Prop} {Out : List A → Prop}
    (hcallee : ∀ (yv : Value) (x y z : A), (∀ k W Γk, k < N → Inv k Γk → T F w0 W (x :: y :: Γk) → CallF P yv (arg k) W fun e w' => e = .returned (.bool true) ∧ ∃ Γ', Mid k Γ' ∧ T F w0 w' (x :: y :: Γ')) →
      (∀ W Γk, Inv N Γk → T F w0 W (x :: y :: Γk) → CallF P yv (arg N) W fun e w' => e = .returned (.bool false) ∧ ∃ Γ', Out Γ' ∧ T F w0 w' (z :: y :: Γ')) →
      ∀ W, T F w0 W (x :: y :: Γ) → Calls P f (first.toList ++ [yv] ++ cap.toList).toArray W fun e w' => (∃ v, e = .returned v) ∧ ∃ Γ', Out Γ' ∧ T F w0 w' (z :: y :: Γ'))
    (hround : ∀ (obf : LoopState → Option Code → Obj) (l d k : Nat) (Γk : List A) (W : World) (Φ : Value → World → Prop), k < N → Inv k Γk → T F w0 W (ob l (obf .ready none) :: ob d (.deferred (some [])) :: Γk) →
      (∀ Γ' w', Mid k Γ' → T F w0 w' (ob l (obf .ready none) :: ob d (.deferred (some [])) :: Γ') → Φ (.bool true) w') → round obf l (arg k) W Φ)
    (hbrk : ∀ (obf : LoopState → Option Code → Obj) (l d : Nat) (Γk : List A) (W : World) (Φ : Value → World → Prop), Inv N Γk → T F w0 W (ob l (obf .ready none) :: ob d (.deferred (some [])) :: Γk) →
      (∀ Γ' w', Out Γ' → T F w0 w' (ob l (obf .done (some .ret)) :: ob d (.deferred (some [])) :: Γ') → Φ (.bool false) w') → round obf l (arg N) W Φ)
    (hK : ∀ d Γ' w', Out Γ' → T F w0 w' (ob d (.deferred (some [])) :: Γ') → R d w') : RangeP P (.func (.func f) first cap) round os K R w := by
  intro obf hob hyield
  refine ⟨f, first, cap, rfl, hb, ?_⟩
  have hsz : (w.alloc (.deferred (some []))).heap.size = w.heap.size + 1 := by simp
  have h2 := (hT.alloc (.deferred (some []))).alloc (obf .ready none)
  rw [hsz] at h2
  refine (hcallee (.func (.yield (w.heap.size + 1)) #[] #[]) (ob (w.heap.size + 1) (obf .ready none)) (ob w.heap.size (.deferred (some []))) (ob (w.heap.size + 1) (obf .done (some .ret))) ?_ ?_ _ h2).mono ?_
  · intro k W Γk hk hi h
    show CallV P (.func (.yield (w.heap.size + 1)) #[] #[]) (arg k) W _
    exact hyield _ _ _ (h.got List.mem_cons_self) (hround obf _ w.heap.size k Γk W _ hk hi h fun Γ' w' hi' h' => ⟨rfl, Γ', hi', h'⟩)
  · intro W Γk hi h
    show CallV P (.func (.yield (w.heap.size + 1)) #[] #[]) (arg N) W _
    exact hyield _ _ _ (h.got List.mem_cons_self) (hbrk obf _ w.heap.size Γk W _ hi h fun Γ' w' hi' h' => ⟨rfl, Γ', hi', h'⟩)
  · rintro e w3 ⟨hv, Γk, hi, h⟩
    exact ⟨hv, .done, some .ret, h.got List.mem_cons_self, by simp, .inr (.inl ⟨rfl, hK _ Γk _ hi h.putTop.drop⟩)⟩
/-- the callee writes, too; all rounds go on -/
theorem RangeA.t {P : Program} {round : (LoopState → Option Code → Obj) → Nat → List Value → World → (Value → World → Prop) → Prop} {os : List (Nat × (Nat → World → Prop))} {K R : Nat → World → Prop} {f : FuncId} {first cap : Array Value} (hb : bodyB P f = true)
    {F : List Nat} {w0 w : World} {Γ : List A} (hT : T F w0 w Γ) {N : Nat} {arg : Nat → List Value} {Inv Mid : Nat → List A → Prop}
    (hcallee : ∀ (yv : Value) (x y : A), (∀ k W Γk, k < N → Inv k Γk → T F w0 W (x :: y :: Γk) → CallF P yv (arg k) W fun e w' => e = .returned (.bool true) ∧ ∃ Γ', Mid k Γ' ∧ T F w0 w' (x :: y :: Γ')) →
      ∀ W, T F w0 W (x :: y :: Γ) → Calls P f (first.toList ++ [yv] ++ cap.toList).toArray W fun e w' => (∃ v, e = .returned v) ∧ ∃ Γ', Inv N Γ' ∧ T F w0 w' (x :: y :: Γ'))
    (hround : ∀ (obf : LoopState → Option Code → Obj) (l d k : Nat) (Γk : List A) (W : World) (Φ : Value → World → Prop), k < N → Inv k Γk → T F w0 W (ob l (obf .ready none) :: ob d (.deferred (some [])) :: Γk) →
      (∀ Γ' w', Mid k Γ' → T F w0 w' (ob l (obf .ready none) :: ob d (.deferred (some [])) :: Γ') → Φ (.bool true) w') → round obf l (arg k) W Φ)
    (hK : ∀ d Γ' w', Inv N Γ' → T F w0 w' (ob d (.deferred (some [])) :: Γ') → K d w') : RangeP P (.func (.func f) first cap) round os K R w := by
  intro obf hob hyield
  refine ⟨f, first, cap, rfl, hb, ?_⟩
  have hsz : (w.alloc (.deferred (some []))).heap.size = w.heap.size + 1 := by simp
  have h2 := (hT.alloc (.deferred (some []))).alloc (obf .ready none)
  rw [hsz] at h2
  refine (hcallee (.func (.yield (w.heap.size + 1)) #[] #[]) (ob (w.heap.size + 1) (obf .ready none)) (ob w.heap.size (.deferred (some []))) ?_ _ h2).mono ?_
  · intro k W Γk hk hi h
    show CallV P (.func (.yield (w.heap.size + 1)) #[] #[]) (arg k) W _
    exact hyield _ _ _ (h.got List.mem_cons_self) (hround obf _ w.heap.size k Γk W _ hk hi h fun Γ' w' hi' h' => ⟨rfl, Γ', hi', h'⟩)
  · rintro e w3 ⟨hv, Γk, hi, h⟩
    exact ⟨hv, .ready, none, h.got List.mem_cons_self, by simp, .inl ⟨rfl, hK _ Γk _ hi h.putTop.drop⟩⟩
end Go.Sh
namespace Go.Proofs.YtmipjkalfodcpaaGreatDoor
open Go.Sh Go.RowKit
set_option linter.unusedVariables false
set_option linter.unusedSimpArgs false
set_option maxRecDepth 20000
set_option maxHeartbeats 2000000
theorem trimL_spec (l : List UInt8) (b : UInt8) (w : World) : Calls Tryz.prog 66 #[.string (strB l), .int .u8 (b.toNat : Int)] w fun e w' => ∃ r m : List UInt8, e = .returned (.string (strB m)) ∧ l = r ++ m ∧ (∀ x ∈ r, x = b) ∧ (∀ x t, m = x :: t → x ≠ b) ∧ Ext w w' := by
  refine (strings_trimLeftByte_calls (R := fun v w' => ∃ r m : List UInt8, v = .string (strB m) ∧ l = r ++ m ∧ (∀ x ∈ r, x = b) ∧ (∀ x t, m = x :: t → x ≠ b) ∧ Ext w w') ?_).mono fun e w' ⟨v, he, r, m, hv, h⟩ => ⟨r, m, by rw [he, hv], h⟩
  unfold strings_trimLeftByte
  refine ⟨fun vs w' => w' = w ∧ ∃ r m : List UInt8, vs = [.string (strB m)] ∧ l = r ++ m ∧ (∀ x ∈ r, x = b), fun vs _ => match vs with | [.string s] => s.size | _ => 0, ⟨rfl, [], l, rfl, rfl, by simp⟩, ?_⟩
  rintro vs w1 ⟨rfl, r, m, rfl, hl, hr⟩
  refine ⟨_, rfl, dec_t fun hlt => ?_, dec_f fun hge => ?_⟩
  · rw [strB_size] at hlt
    obtain ⟨x, t, rfl⟩ : ∃ x t, m = x :: t := by
      cases m with
      | nil => simp at hlt
      | cons x t => exact ⟨x, t, rfl⟩
    have hix := index_str (P := Tryz.prog) (t := 9) (k := .i64) (n := (0 : Int)) (s := strB (x :: t)) (w := w1) (by kernel_rfl) (by omega) (by rw [strB_size]; simp)
    refine ⟨(x.toNat : Int), w1, hix, beq_t fun hx => ?_, beq_f fun hx => ?_⟩
    · have hsl := slice_from (P := Tryz.prog) (t := 9) (k := .i64) (s := strB (x :: t)) (lo := 1) (w := w1) (by kernel_rfl) (by omega) (by rw [strB_size]; simp; omega)
      rw [strB_extract, strB_size] at hsl
      have ht : ((x :: t).drop (1 : Int).toNat).take ((x :: t).length - (1 : Int).toNat) = t := by simp
      rw [ht] at hsl
      have hxb : x = b := UInt8.toNat_inj.1 (by omega)
      refine ⟨_, w1, hsl, ⟨rfl, r ++ [x], t, rfl, by simp [hl], fun y hy => ?_⟩, ?_⟩
      · rcases List.mem_append.1 hy with hy | hy
        · exact hr y hy
        · rw [List.mem_singleton.1 hy]; exact hxb
      · show (strB t).size < (strB (x :: t)).size
        rw [strB_size, strB_size]; simp
    · exact ⟨r, x :: t, rfl, hl, hr, fun y s hy => by cases hy; exact fun e => hx (by rw [e]), Ext.refl _⟩
  · rw [strB_size] at hge
    have : m = [] := List.eq_nil_of_length_eq_zero (by omega)
    subst this
    exact ⟨r, [], rfl, hl, hr, (fun y s hy => by cases hy), Ext.refl _⟩
theorem trimR_spec (l : List UInt8) (hl : l.length ≤ 1000000000) (b : UInt8) (w : World) : Calls Tryz.prog 67 #[.string (strB l), .int .u8 (b.toNat : Int)] w fun e w' => ∃ r m : List UInt8, e = .returned (.string (strB m)) ∧ l = m ++ r ∧ (∀ x ∈ r, x = b) ∧ Ext w w' := by
  refine (strings_trimRightByte_calls (R := fun v w' => ∃ r m : List UInt8, v = .string (strB m) ∧ l = m ++ r ∧ (∀ x ∈ r, x = b) ∧ Ext w w') ?_).mono fun e w' ⟨v, he, r, m, hv, h⟩ => ⟨r, m, by rw [he, hv], h⟩
  unfold strings_trimRightByte
  refine ⟨fun vs w' => w' = w ∧ ∃ r m : List UInt8, vs = [.string (strB m)] ∧ l = m ++ r ∧ (∀ x ∈ r, x = b), fun vs _ => match vs with | [.string s] => s.size | _ => 0, ⟨rfl, [], l, rfl, by simp, by simp⟩, ?_⟩
  rintro vs w1 ⟨rfl, r, m, rfl, hlm, hr⟩
  have hml : m.length ≤ 1000000000 := by have := congrArg List.length hlm; simp at this; omega
  refine ⟨_, rfl, dec_t fun hlt => ?_, dec_f fun hge => ⟨r, m, rfl, hlm, hr, Ext.refl _⟩⟩
  rw [strB_size] at hlt ⊢
  have e1 : IntKind.i64.wrap ((m.length : Int) - 1) = ((m.length - 1 : Nat) : Int) := by rw [wrap64 _ (by omega) (by omega)]; omega
  rw [e1]
  have hix := index_str (P := Tryz.prog) (t := 9) (k := .i64) (n := ((m.length - 1 : Nat) : Int)) (s := strB m) (w := w1) (by kernel_rfl) (by omega) (by rw [strB_size]; omega)
  rw [Int.toNat_natCast] at hix
  refine ⟨((m.getD (m.length - 1) 0).toNat : Int), w1, hix, beq_t fun hx => ?_, beq_f fun hx => ⟨r, m, rfl, hlm, hr, Ext.refl _⟩⟩
  have hsl := slice_to (P := Tryz.prog) (t := 9) (k := .i64) (s := strB m) (hi := ((m.length - 1 : Nat) : Int)) (w := w1) (by kernel_rfl) (by omega) (by rw [strB_size]; omega)
  rw [strB_extract, List.drop_zero, Nat.sub_zero, Int.toNat_natCast] at hsl
  have hxb : m.getD (m.length - 1) 0 = b := UInt8.toNat_inj.1 (by omega)
  have hsp : m = m.take (m.length - 1) ++ [b] := by
    have h0 : m.length - 1 < m.length := by omega
    have h1 : m.getD (m.length - 1) 0 = m[m.length - 1] := by simp [List.getD, h0]
    rw [h1] at hxb
    rw [← hxb]
    have h2 := List.take_append_drop (m.length - 1) m
    rw [List.drop_eq_getElem_cons h0, List.drop_of_length_le (by omega)] at h2
    exact h2.symm
  refine ⟨_, w1, hsl, ⟨rfl, b :: r, m.take (m.length - 1), rfl, ?_, fun y hy => ?_⟩, ?_⟩
  · rw [hlm]
    conv => lhs; rw [hsp]
    simp
  · rcases List.mem_cons.1 hy with rfl | hy
    · rfl
    · exact hr y hy
  · show (strB (m.take (m.length - 1))).size < (strB m).size
    rw [strB_size, strB_size, List.length_take]; omega
theorem trim_spec (l : List UInt8) (hl : l.length ≤ 1000000000) (w : World) : Calls Tryz.prog 50 #[.string (strB l), .string (strB [0])] w fun e w' => ∃ m : List UInt8, e = .returned (.string (strB m)) ∧ (m = [] ↔ ∀ x ∈ l, x = 0) ∧ Ext w w' := by
  refine (strings_Trim_calls (R := fun v w' => ∃ m : List UInt8, v = .string (strB m) ∧ (m = [] ↔ ∀ x ∈ l, x = 0) ∧ Ext w w') ?_).mono fun e w' ⟨v, he, m, hv, h⟩ => ⟨m, by rw [he, hv], h⟩
  unfold strings_Trim
  rw [strB_toList, strB_toList, strB_toList]
  refine ⟨fun h => ?_, fun h => no (by decide) ?_⟩
  · have : l = [] := by simpa using h
    subst this
    exact ⟨[], rfl, by simp, Ext.refl w⟩
  refine Join.intro fun J hJ => yes (by decide) ?_
  have hix : ∀ w', (Instr.index 9 (.string (strB [0])) (.int .i64 0)).run Tryz.prog w' = .ok (.int .u8 ((0 : UInt8).toNat : Int)) w' := fun w' =>
    index_str (P := Tryz.prog) (t := 9) (k := .i64) (n := (0 : Int)) (s := strB [0]) (w := w') (by kernel_rfl) (by omega) (by rw [strB_size]; simp)
  refine ⟨_, w, hix w, yes (by decide) ⟨fun _ => True, trivial, _, fun w' _ => hix w', ?_⟩⟩
  refine (trimR_spec l hl 0 _).mono fun e w1 ⟨r1, m1, he, h1, hr1, hx1⟩ => ⟨_, he, trivial, _, fun w' _ => hix w', ?_⟩
  refine (trimL_spec m1 0 _).mono fun e w2 ⟨r2, m2, he, h2, hr2, hn2, hx2⟩ => ⟨_, he, trivial, m2, rfl, ?_, ((Ext.refl w).drew.trans hx1).trans hx2⟩
  constructor
  · rintro rfl x hx
    rw [h1, h2, List.append_nil] at hx
    rcases List.mem_append.1 hx with h | h
    · exact hr2 x h
    · exact hr1 x h
  · intro hall
    cases m2 with
    | nil => rfl
    | cons x t => exact absurd (hall x (by rw [h1, h2]; simp)) (hn2 x t rfl)
theorem slice_mid {P : Program} {t : TypeId} {s : ByteArray} {k k' : IntKind} {lo hi : Int} {w : World} (ht : P.underlying t = some .string) (h0 : 0 ≤ lo) (h1 : lo ≤ hi) (h2 : hi ≤ (s.size : Int)) :
    (Instr.sliceAt t (.string s) (some (.int k lo)) (some (.int k' hi)) none).run P w = .ok (.string (s.extract lo.toNat hi.toNat)) w := by
  have h3 : 0 ≤ lo ∧ lo ≤ hi := ⟨h0, h1⟩
  have h4 : 0 ≤ hi ∧ hi ≤ (s.size : Int) := ⟨by omega, h2⟩
  have h5 : ¬ max hi 0 < lo := by omega
  simp [Instr.sliceAt, Instr.slice, Instr.sliceBounds, Instr.sliceBound, asIntOf, underlying_run ht, h3, h4, h5]
theorem hasPrefix_spec (l m : List UInt8) (w : World) : Ret Tryz.prog 79 #[.string (strB l), .string (strB m)] w (.bool (decide (l.take m.length = m))) := by
  refine ret_of (internal_stringslite_HasPrefix_calls ?_)
  unfold internal_stringslite_HasPrefix
  rw [strB_size, strB_size]
  refine ⟨dec_t fun hge => ?_, dec_f fun hlt => ⟨?_, Ext.refl w⟩⟩
  · have hsl := slice_to (P := Tryz.prog) (t := 9) (k := .i64) (s := strB l) (hi := (m.length : Int)) (w := w) (by kernel_rfl) (by omega) (by rw [strB_size]; omega)
    rw [strB_extract, List.drop_zero, Nat.sub_zero, Int.toNat_natCast] at hsl
    refine ⟨_, w, hsl, ?_, Ext.refl w⟩
    rw [strB_toList, strB_toList]
    by_cases h : l.take m.length = m
    · rw [decide_eq_true h, h]; simp
    · rw [decide_eq_false h]
      have : (l.take m.length == m) = false := by simpa using h
      rw [this]
  · rw [decide_eq_false]
    intro e
    have := congrArg List.length e
    rw [List.length_take] at this
    omega
def cutV (l m : List UInt8) : Value := if l.take m.length = m then .tuple #[.string (strB (l.drop m.length)), .bool true] else .tuple #[.string (strB l), .bool false]
theorem cutPrefix_spec (l m : List UInt8) (hl : l.length ≤ 1000000) (w : World) : Ret Tryz.prog 49 #[.string (strB l), .string (strB m)] w (cutV l m) := by
  refine ret_of (strings_CutPrefix_calls ?_)
  unfold strings_CutPrefix
  have h1 : Ret Tryz.prog 65 #[.string (strB l), .string (strB m)] w (cutV l m) := by
    refine ret_of (internal_stringslite_CutPrefix_calls ?_)
    unfold internal_stringslite_CutPrefix
    refine (hasPrefix_spec l m w).mono fun e w1 ⟨he, hx⟩ => ⟨_, he, ?_⟩
    unfold cutV
    by_cases h : l.take m.length = m
    · rw [decide_eq_true h, if_pos h]
      refine no rfl ?_
      have hml : m.length ≤ l.length := by
        have := congrArg List.length h
        rw [List.length_take] at this
        omega
      have hsl := slice_from (P := Tryz.prog) (t := 9) (k := .i64) (s := strB l) (lo := (m.length : Int)) (w := w1) (by kernel_rfl) (by omega) (by rw [strB_size]; omega)
      rw [strB_extract, strB_size, Int.toNat_natCast, List.take_of_length_le (by rw [List.length_drop]; omega)] at hsl
      exact ⟨_, w1, by rw [strB_size]; exact hsl, rfl, hx⟩
    · rw [decide_eq_false h, if_neg h]
      exact yes rfl ⟨rfl, hx⟩
  refine h1.mono fun e w1 ⟨he, hx⟩ => ?_
  unfold cutV at he ⊢
  split at he
  · rename_i h
    exact ⟨_, _, he, by rw [if_pos h], hx⟩
  · rename_i h
    exact ⟨_, _, he, by rw [if_neg h], hx⟩
end Go.Proofs.YtmipjkalfodcpaaGreatDoor
end
