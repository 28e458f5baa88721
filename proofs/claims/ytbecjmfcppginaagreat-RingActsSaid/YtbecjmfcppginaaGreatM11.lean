import Derived.Test.YtbecjmfcppginaaGreatM2
import Derived.Test.YtbecjmfcppginaaGreatM9
import Derived.Test.YtbecjmfcppginaaGreatM10
section
/-! the reference's drive: how it lies, what it tells. -/
namespace Go.Proofs.YtbecjmfcppginaaGreat
open Go.Sh Go.Maps Go.RowKit
set_option linter.unusedVariables false
set_option maxHeartbeats 1000000
set_option maxRecDepth 20000
/-- the writes of one sector -/
structure RW where
  g : Option Nat
  cap : Nat
  l : List ByteArray
def RW.val (e : RW) : Value := .slice (ptr e.g) e.l.length e.cap
def RW.row (e : RW) : A := rowP 9 1 e.g e.l.length e.cap (e.l.map .string)
structure RL where
  p : Nat
  gs : Option Nat
  cs : Nat
  gw : Option Nat
  cw : Nat
  gp : Option Nat
  cp : Nat
  safe : List ByteArray
  ws : List RW
  sp : List Bool
  gone : Bool
  cut : Bool
  left : Int
def hdr (R : RL) : List A := [blk R.p #[.slice (ptr R.gs) R.safe.length R.cs, .slice (ptr R.gw) R.ws.length R.cw, .slice (ptr R.gp) R.sp.length R.cp, .bool R.gone, .bool R.cut, .int .i64 R.left] 54,
  rowP 9 1 R.gs R.safe.length R.cs (R.safe.map .string), rowP 42 1 R.gw R.ws.length R.cw (R.ws.map RW.val), rowP 4 1 R.gp R.sp.length R.cp (R.sp.map .bool)]
def refL (R : RL) : List A := hdr R ++ R.ws.map RW.row
structure RAbs (R : RL) (a : AD) : Prop where
  n1 : a.safe.length ≤ 4096
  safe : R.safe = a.safe
  wl : R.ws.length = a.safe.length
  ws : ∀ i (e : RW), R.ws[i]? = some e → e.l = a.pend i
  pl : R.sp.length = a.safe.length
  sp : ∀ i b, R.sp[i]? = some b → b = a.spoilt i
  dead : R.gone = a.dead
  power : match a.power with
    | none => R.cut = false
    | some n => R.cut = true ∧ R.left = n ∧ n ≤ 9223372036854775807
/-- the reference's drive, and how it stands -/
def Rf (p : Nat) (a : AD) (F : List Nat) (w0 w : World) (X : List A) : Prop := ∃ R, R.p = p ∧ RAbs R a ∧ T F w0 w (refL R ++ X)
theorem RAbs.off {R : RL} {a : AD} (h : RAbs R a) : (R.cut && R.left == 0) = a.off := by
  have hp := h.power
  unfold AD.off
  cases ha : a.power with
  | none => rw [ha] at hp; simp only at hp; simp [hp]
  | some n =>
    rw [ha] at hp
    simp only at hp
    rw [hp.1, hp.2.1]
    by_cases hn : n = 0
    · subst hn; rfl
    · have h1 : ((n : Int) == 0) = false := by simpa using hn
      rw [h1]; simp [hn]
theorem Rf.quiet {p : Nat} {a : AD} {F : List Nat} {w0 w w' : World} {X : List A} (h : Rf p a F w0 w X) (he : Ext w w') : Rf p a F w0 w' X := by
  obtain ⟨R, h1, h2, h3⟩ := h
  exact ⟨R, h1, h2, h3.quiet he⟩
theorem Rf.sub {p : Nat} {a : AD} {F : List Nat} {w0 w : World} {X : List A} (h : Rf p a F w0 w X) : ∃ F, Rf p a F w w [] := by
  obtain ⟨R, h1, h2, h3⟩ := h
  exact ⟨_, R, h1, h2, by rw [List.append_nil]; exact (T.subL h3).start⟩
theorem roff_r {p : Nat} {a : AD} {F : List Nat} {w0 w : World} {X : List A} (h : Rf p a F w0 w X) : Ret Tryz.prog 76 #[.pointer (some ⟨p, 0, none⟩)] w (.bool a.off) := by
  obtain ⟨R, rfl, hA, hT⟩ := h
  rw [← hA.off]
  refine ret_of (revetmentref04_Drive_off_calls ?_)
  unfold revetmentref04_Drive_off
  refine ⟨_, rfl, _, hT.ldA (by repeat (first | exact List.Mem.head _ | refine List.Mem.tail _ ?_)) rfl, fun hc => ⟨_, rfl, _, hT.ldA (by repeat (first | exact List.Mem.head _ | refine List.Mem.tail _ ?_)) rfl, ?_, .refl w⟩, fun hc => ⟨?_, .refl w⟩⟩
  · rw [hc]; rfl
  · rw [hc]; rfl
theorem rmay_r {p : Nat} {a : AD} {F : List Nat} {w0 w : World} {X : List A} (h : Rf p a F w0 w X) (i : Int) : Ret Tryz.prog 55 #[.pointer (some ⟨p, 0, none⟩), .int .i64 i] w (.int .i64 (a.may i)) := by
  have h0 := h
  obtain ⟨R, rfl, hA, hT⟩ := h
  refine ret_of (revetmentref04_Drive_may_calls ?_)
  unfold revetmentref04_Drive_may
  have hd := hA.dead
  refine ⟨_, rfl, _, hT.ldA (by repeat (first | exact List.Mem.head _ | refine List.Mem.tail _ ?_)) rfl, fun hc => ⟨?_, .refl w⟩, fun hc => ?_⟩
  · unfold AD.may; rw [if_pos (by rw [← hd]; exact hc)]
  · have hnd : ¬ a.dead = true := by rw [← hd, hc]; simp
    refine (roff_r h0).mono fun e w1 ⟨he, hx⟩ => ⟨_, he, fun ho => ⟨?_, hx⟩, fun ho => ⟨dec_t fun h1 => ⟨?_, hx⟩, dec_f fun h1 => ⟨_, rfl, _, _, _, (hT.quiet hx).ld (by repeat (first | exact List.Mem.head _ | refine List.Mem.tail _ ?_)) rfl, dec_t fun h2 => ⟨?_, hx⟩, dec_f fun h2 => ⟨?_, hx⟩⟩⟩⟩
    · unfold AD.may; rw [if_neg hnd, if_pos ho]
    · unfold AD.may; rw [if_neg hnd, if_neg (by rw [ho]; simp), if_pos (.inl h1)]
    · unfold AD.may; rw [if_neg hnd, if_neg (by rw [ho]; simp), if_pos (.inr (by rw [← hA.safe]; exact h2))]
    · unfold AD.may; rw [if_neg hnd, if_neg (by rw [ho]; simp), if_neg (by rw [← hA.safe]; omega)]
theorem rread_r {p : Nat} {a : AD} {F : List Nat} {w0 w : World} {X : List A} (h : Rf p a F w0 w X) (hF : a.Few 1000000) (i : Int) : Ret Tryz.prog 46 #[.pointer (some ⟨p, 0, none⟩), .int .i64 i] w (.tuple #[.string (a.read i).1, .int .i64 (a.read i).2]) := by
  have h0 := h
  obtain ⟨R, rfl, hA, hT⟩ := h
  refine ret_of (revetmentref04_Drive_Read_calls ?_)
  unfold revetmentref04_Drive_Read
  have key : ∀ x : ByteArray × Int, a.read i = x → (Value.tuple #[.string x.1, .int .i64 x.2]) = .tuple #[.string (a.read i).1, .int .i64 (a.read i).2] := fun x hx => by rw [hx]
  refine (rmay_r h0 i).mono fun e w1 ⟨he, hx⟩ => ⟨_, he, bne_t fun hm => ⟨key (noB, a.may i) (by unfold AD.read; rw [if_pos hm]), hx⟩, bne_f fun hm => ?_⟩
  have hT1 := hT.quiet hx
  have hi := AD.may_zero hm
  have hrd := AD.read_of hm
  have hp : i.toNat < R.sp.length := by rw [hA.pl]; omega
  have hw : i.toNat < R.ws.length := by rw [hA.wl]; omega
  have hs : i.toNat < R.safe.length := by rw [hA.safe]; omega
  obtain ⟨b1, hb1, hc1⟩ := T.row1 (i := i.toNat) (v := .bool R.sp[i.toNat]) hT1 (show rowP 4 1 R.gp R.sp.length R.cp (R.sp.map .bool) ∈ _ from (by repeat (first | exact List.Mem.head _ | refine List.Mem.tail _ ?_))) (by rw [List.getElem?_map, List.getElem?_eq_getElem hp]; rfl)
  have hsp := hA.sp i.toNat _ (List.getElem?_eq_getElem hp)
  refine ⟨_, rfl, _, _, _, hT1.ldA (by repeat (first | exact List.Mem.head _ | refine List.Mem.tail _ ?_)) (by rw [hb1]; rfl), _, rfl, by omega, by omega, _, hc1, fun ht => ⟨key (noB, 41) (by rw [hrd, if_pos (by rw [← hsp]; exact ht)]), hx⟩, fun ht => ?_⟩
  have hns : ¬ a.spoilt i.toNat = true := by rw [← hsp, ht]; simp
  rw [if_neg hns] at hrd
  obtain ⟨b2, hb2, hc2⟩ := T.row1 (i := i.toNat) (v := R.ws[i.toNat].val) hT1 (show rowP 42 1 R.gw R.ws.length R.cw (R.ws.map RW.val) ∈ _ from (by repeat (first | exact List.Mem.head _ | refine List.Mem.tail _ ?_))) (by rw [List.getElem?_map, List.getElem?_eq_getElem hw]; rfl)
  have hws := hA.ws i.toNat _ (List.getElem?_eq_getElem hw)
  have hmem : R.ws[i.toNat] ∈ R.ws := List.getElem_mem hw
  generalize he : R.ws[i.toNat] = e at *
  refine ⟨_, rfl, _, _, _, hT1.ldA (by repeat (first | exact List.Mem.head _ | refine List.Mem.tail _ ?_)) (by rw [hb2]; rfl), _, rfl, by omega, by omega, _, _, _, hc2, dec_t fun hpos => ?_, dec_f fun hz => ?_⟩
  · have hne : e.l ≠ [] := by intro h; rw [h] at hpos; simp at hpos
    have hfl : e.l.length ≤ 1000000 := by rw [hws]; exact hF _
    have hw1 : IntKind.i64.wrap ((e.l.length : Int) - 1) = ((e.l.length - 1 : Nat) : Int) := by rw [wrap64 _ (by omega) (by omega)]; omega
    have hlast : e.l[e.l.length - 1]? = some (e.l.getLast hne) := by rw [List.getLast_eq_getElem]; exact List.getElem?_eq_getElem (by omega)
    obtain ⟨b3, hb3, hc3⟩ := T.row1 (i := e.l.length - 1) (v := .string (e.l.getLast hne)) hT1 (show rowP 9 1 e.g e.l.length e.cap (e.l.map .string) ∈ _ from List.mem_append_left _ (List.mem_append_right _ (List.mem_map_of_mem (f := RW.row) hmem))) (by rw [List.getElem?_map, hlast]; rfl)
    rw [hw1]
    refine ⟨_, rfl, _, _, _, hT1.ldA (by repeat (first | exact List.Mem.head _ | refine List.Mem.tail _ ?_)) (by rw [hb2]; rfl), _, rfl, by omega, by omega, _, _, _, hc2, _, by rw [hb3]; rfl, by omega, by omega, _, by rw [show ((e.l.length - 1 : Nat) : Int).toNat = e.l.length - 1 by omega]; exact hc3, key (e.l.getLast hne, 0) ?_, hx⟩
    rw [hrd]
    unfold AD.top
    rw [← hws, List.getLast?_eq_some_getLast hne]
  · have hnil : e.l = [] := List.eq_nil_of_length_eq_zero (by omega)
    obtain ⟨b3, hb3, hc3⟩ := T.row1 (i := i.toNat) (v := .string R.safe[i.toNat]) hT1 (show rowP 9 1 R.gs R.safe.length R.cs (R.safe.map .string) ∈ _ from (by repeat (first | exact List.Mem.head _ | refine List.Mem.tail _ ?_))) (by rw [List.getElem?_map, List.getElem?_eq_getElem hs]; rfl)
    refine ⟨_, rfl, _, _, _, hT1.ld (by repeat (first | exact List.Mem.head _ | refine List.Mem.tail _ ?_)) (by rw [hb3]; rfl), _, rfl, by omega, by omega, _, hc3, key (R.safe[i.toNat], 0) ?_, hx⟩
    rw [hrd]
    unfold AD.top
    rw [← hws, hnil, ← hA.safe, List.getD_eq_getElem?_getD, List.getElem?_eq_getElem hs]; rfl
end Go.Proofs.YtbecjmfcppginaaGreat
end
section
/-! the reference's drive: what turns. -/
namespace Go.Proofs.YtbecjmfcppginaaGreat
open Go.Sh Go.Maps Go.RowKit
set_option linter.unusedVariables false
set_option maxHeartbeats 1000000
set_option maxRecDepth 20000
theorem append_none {P : Program} {w : World} {t ty e : TypeId} {i : TypeInfo} (cs : Array Bool) (ht : P.underlying t = some (.slice e)) (hi : P.info? e = some i) {g : Option Addr} {n cap : Nat} (hn : n ≤ cap) :
    (builtin .append #[t, t] ty cs #[.slice g n cap, .slice none 0 0]).run P w = .ok (.value (.slice g n cap)) w := by
  cases g <;> simp [builtin, Builtin.append_, run_underlying ht, sizeOf, typeInfo, program, Sem.run, hi, Builtin.lenOf, Builtin.firstCells, loadCells, hn, storeCells, Result.andThen]
/-- all of a row's texts behind another one's -/
theorem append_row {F : List Nat} {w0 w : World} {Γ Δ : List A} {g g2 : Option Nat} {n cap n2 cap2 : Nat} {l l2 : List ByteArray} (hT : T F w0 w Γ) (hk : Pick (rowP 9 1 g n cap (l.map .string)) Γ Δ) (hm : rowP 9 1 g2 n2 cap2 (l2.map .string) ∈ Γ) (hn : n ≤ 1000000) (hn2 : n2 ≤ 1000000) :
    ∃ g' cap' w', (builtin .append #[42, 42] 42 #[false, false] #[.slice (ptr g) n cap, .slice (ptr g2) n2 cap2]).run Tryz.prog w = .ok (.value (.slice (ptr g') (n + n2) cap')) w' ∧ T F w0 w' (rowP 9 1 g' (n + n2) cap' ((l ++ l2).map .string) :: Δ) := by
  have h1 := hT.says hm
  have hl2 := rowP.len h1
  cases g2 with
  | none =>
    have h2 : cap2 = 0 := h1.2.2.2
    have h3 : n2 ≤ cap2 := h1.2.1
    obtain rfl : n2 = 0 := by omega
    subst h2
    have : l2 = [] := by
      have : (l2.map Value.string).length = 0 := by simpa using hl2
      simpa using this
    subst this
    have h4 := (hT.pick hk).says List.mem_cons_self
    refine ⟨g, cap, w, append_none (e := 9) _ (by kernel_rfl) (i := Tryz.t9) (by kernel_rfl) h4.2.1, ?_⟩
    rw [List.append_nil]
    exact hT.pick hk
  | some b =>
    have hnews : ∀ j u, (l2.map Value.string)[j]? = some u → w.cell? (Addr.add ⟨b, 0, none⟩ j) = some u := fun j u hu => by
      rw [addr_add, Nat.zero_add]; exact rowP.cell h1 hu
    have hby : Tryz.t9.bytes = 16 := by kernel_rfl
    obtain ⟨g', cap', w', hr, hT'⟩ := append_t (P := Tryz.prog) (t := 42) (ty := 42) (e := 9) (i := Tryz.t9) (z := .string (ByteArray.mk #[])) (size := 1) #[false, false] (by kernel_rfl) (by kernel_rfl) (by kernel_rfl) (by kernel_rfl) (by kernel_rfl)
      hT hk (a := ⟨b, 0, none⟩) (m := n2) (c := cap2) (news := l2.map .string) hl2 hnews (fun u hu => by obtain ⟨x, _, rfl⟩ := List.mem_map.1 hu; rfl) (by simp only [maxLen]; omega) (by rw [hby]; omega)
    refine ⟨g', cap', w', hr, ?_⟩
    rw [List.map_append]
    exact hT'
theorem ws_split {ws : List RW} {i : Nat} (hi : i < ws.length) : (ws.map RW.row).Perm (ws[i].row :: (ws.take i ++ ws.drop (i + 1)).map RW.row) := by
  have e : ws = ws.take i ++ ws[i] :: ws.drop (i + 1) := by rw [List.getElem_cons_drop, List.take_append_drop]
  conv => lhs; rw [e]
  rw [List.map_append, List.map_cons, List.map_append]
  exact List.perm_middle
theorem ws_join {ws : List RW} {i : Nat} (hi : i < ws.length) (x : RW) : (x.row :: (ws.take i ++ ws.drop (i + 1)).map RW.row).Perm ((ws.set i x).map RW.row) := by
  rw [List.set_eq_take_append_cons_drop, if_pos hi, List.map_append, List.map_append, List.map_cons]
  exact List.perm_middle.symm
theorem nil_row {F : List Nat} {w0 w : World} {Γ : List A} (h : T F w0 w Γ) : T F w0 w (RW.row ⟨none, 0, []⟩ :: Γ) := h.nilRow 9 1
/-- the reference uses power that it counts -/
theorem ruse_r {R : RL} {F : List Nat} {w0 w : World} {X : List A} (hT : T F w0 w (refL R ++ X)) : Calls Tryz.prog 56 #[.pointer (some ⟨R.p, 0, none⟩)] w fun e w' => e = .returned (.tuple #[]) ∧ T F w0 w' (refL { R with left := if R.cut then IntKind.i64.wrap (R.left - 1) else R.left } ++ X) := by
  refine (revetmentref04_Drive_use_calls (R := fun v w' => v = .tuple #[] ∧ T F w0 w' (refL { R with left := if R.cut then IntKind.i64.wrap (R.left - 1) else R.left } ++ X)) ?_).mono fun e w' ⟨v, he, hv, ht⟩ => ⟨hv ▸ he, ht⟩
  unfold revetmentref04_Drive_use
  refine ⟨_, rfl, _, hT.ldA (by repeat (first | exact List.Mem.head _ | refine List.Mem.tail _ ?_)) rfl, fun hc => ⟨_, rfl, _, hT.ldA (by repeat (first | exact List.Mem.head _ | refine List.Mem.tail _ ?_)) rfl, _, rfl, ?_⟩, fun hc => ?_⟩
  · refine St.tA hT .head (by simp) (by rfl) rfl fun w2 h2 => ⟨rfl, ?_⟩
    have h3 : T F w0 w2 (refL { R with left := IntKind.i64.wrap (R.left - 1) } ++ X) := h2
    rw [if_pos hc]; exact h3
  · refine ⟨rfl, ?_⟩
    rw [if_neg (by rw [hc]; simp)]; exact hT
theorem RAbs.left {R : RL} {a : AD} (h : RAbs R a) (ho : a.off = false) : match (a.power.map (fun n : Nat => n - 1) : Option Nat) with
    | none => R.cut = false
    | some n => R.cut = true ∧ (if R.cut then IntKind.i64.wrap (R.left - 1) else R.left) = (n : Int) ∧ n ≤ 9223372036854775807 := by
  have hp := h.power
  cases ha : a.power with
  | none => rw [ha] at hp; exact hp
  | some n =>
    rw [ha] at hp
    have hn : n ≠ 0 := by
      intro e
      subst e
      unfold AD.off at ho
      rw [ha] at ho
      simp at ho
    simp only [Option.map_some] at hp ⊢
    refine ⟨hp.1, ?_, by omega⟩
    rw [hp.1, if_pos rfl, hp.2.1, wrap64 _ (by omega) (by omega)]
    omega
theorem perm4a {α : Type} (x y b s : α) (l : List α) : (x :: y :: b :: s :: l).Perm (b :: s :: y :: x :: l) := by
  have h1 : (x :: y :: b :: s :: l).Perm (y :: x :: b :: s :: l) := .swap _ _ _
  have h2 : (y :: x :: b :: s :: l).Perm ([b, s] ++ y :: x :: l) := (List.perm_append_comm (l₁ := [y, x]) (l₂ := [b, s])).append_right l
  exact h1.trans h2
theorem rwrite_r {p : Nat} {a : AD} {F : List Nat} {w0 w : World} {X : List A} (h : Rf p a F w0 w X) (hF : a.Few 999999) (i : Int) (s : ByteArray) :
    Calls Tryz.prog 18 #[.pointer (some ⟨p, 0, none⟩), .int .i64 i, .string s] w fun e w' => e = .returned (.int .i64 (a.put i s)) ∧ Rf p (a.write i s) F w0 w' X := by
  have h0 := h
  obtain ⟨R, rfl, hA, hT⟩ := h
  refine (revetmentref04_Drive_Write_calls (R := fun v w' => v = .int .i64 (a.put i s) ∧ Rf R.p (a.write i s) F w0 w' X) ?_).mono fun e w' ⟨v, he, hv, ht⟩ => ⟨hv ▸ he, ht⟩
  unfold revetmentref04_Drive_Write
  have fail : ∀ n, a.put i s = n → n ≠ 0 → ∀ w1, Ext w w1 → Value.int .i64 n = .int .i64 (a.put i s) ∧ Rf R.p (a.write i s) F w0 w1 X := fun n hn h1 w1 hx => by
    refine ⟨by rw [hn], ?_⟩
    unfold AD.write
    rw [if_pos (by rw [hn]; exact h1)]
    exact h0.quiet hx
  refine (rmay_r h0 i).mono fun e w1 ⟨he, hx⟩ => ⟨_, he, bne_t fun hm => fail _ (by unfold AD.put; rw [if_pos hm]) hm _ hx, bne_f fun hm => ⟨bne_t fun hs => fail 1 (by unfold AD.put; rw [if_neg (by simpa using hm), if_pos (by omega)]) (by decide) _ hx, bne_f fun hs => ?_⟩⟩
  have hs64 : s.size = 64 := by omega
  have hz : a.put i s = 0 := by unfold AD.put; rw [if_neg (by simpa using hm), if_neg (by omega)]
  have hi := AD.may_zero hm
  have hw : i.toNat < R.ws.length := by rw [hA.wl]; omega
  have hp : i.toNat < R.sp.length := by rw [hA.pl]; omega
  have hws := hA.ws i.toNat _ (List.getElem?_eq_getElem hw)
  have hfl : (R.ws[i.toNat]).l.length ≤ 999999 := by rw [hws]; exact hF _
  have hT1 := hT.quiet hx
  have hTx : T F w0 w1 ((R.ws[i.toNat]).row :: (hdr R ++ ((R.ws.take i.toNat ++ R.ws.drop (i.toNat + 1)).map RW.row ++ X))) := by
    refine hT1.swap ?_
    have h1 : (refL R ++ X).Perm (hdr R ++ ((R.ws[i.toNat]).row :: (R.ws.take i.toNat ++ R.ws.drop (i.toNat + 1)).map RW.row) ++ X) := by
      unfold refL
      exact ((ws_split hw).append_left (hdr R)).append_right X
    refine h1.trans ?_
    rw [List.append_assoc, List.cons_append]
    exact List.perm_middle
  generalize hrest : (R.ws.take i.toNat ++ R.ws.drop (i.toNat + 1)).map RW.row = rest at hTx
  refine Alloc.t hTx fun k18 w2 hT2 => ?_
  have hT2' : T F w0 w2 (rowP 9 1 (some k18) 0 0 (([] : List ByteArray).map .string) :: (R.ws[i.toNat]).row :: (hdr R ++ (rest ++ X))) := hT2.weak rfl fun g hg => ⟨rfl, Nat.le_refl _, by decide, #[], hg, rfl, rfl⟩
  obtain ⟨b, hb, hc⟩ := T.row1 (i := i.toNat) (v := (R.ws[i.toNat]).val) hT2' (show rowP 42 1 R.gw R.ws.length R.cw (R.ws.map RW.val) ∈ _ from (by repeat (first | exact List.Mem.head _ | refine List.Mem.tail _ ?_))) (by rw [List.getElem?_map, List.getElem?_eq_getElem hw]; rfl)
  refine ⟨_, rfl, _, _, _, hT2'.ldA (by repeat (first | exact List.Mem.head _ | refine List.Mem.tail _ ?_)) (by rw [hb]; rfl), _, rfl, by omega, by omega, _, _, _, hc, ?_⟩
  obtain ⟨g3, c3, w3, hr3, hT3⟩ := append_row (l := []) (l2 := (R.ws[i.toNat]).l) hT2' .head (List.mem_cons_of_mem _ List.mem_cons_self) (by decide) (by omega)
  refine ⟨_, _, _, w3, hr3, fun w => w.cell? (Addr.add ⟨R.p, 0, none⟩ 1) = some (.slice (ptr R.gw) R.ws.length R.cw), hT3.drew.ldA (by repeat (first | exact List.Mem.head _ | refine List.Mem.tail _ ?_)) rfl, _, rfl, _, _, _, fun w hw => hw, ?_⟩
  refine Alloc.t hT3.drew fun k35 w4 hT4 => ⟨hT4.ldA (by repeat (first | exact List.Mem.head _ | refine List.Mem.tail _ ?_)) rfl, ?_⟩
  have hT4' : T F w0 w4 (rowP 9 1 (some k35) 1 1 (([s] : List ByteArray).map .string) :: rowP 9 1 g3 (0 + (R.ws[i.toNat]).l.length) c3 (([] ++ (R.ws[i.toNat]).l).map .string) :: (R.ws[i.toNat]).row :: (hdr R ++ (rest ++ X))) := hT4.weak rfl fun g hg => ⟨rfl, Nat.le_refl _, by decide, #[.string s], hg, rfl, rfl⟩
  obtain ⟨g5, c5, w5, hr5, hT5⟩ := append_row (l := [] ++ (R.ws[i.toNat]).l) (l2 := [s]) (n := 0 + (R.ws[i.toNat]).l.length) (n2 := 1) (g2 := some k35) (cap2 := 1) hT4' (.tail .head) List.mem_cons_self (by omega) (by decide)
  refine ⟨_, _, _, w5, hr5, hT5.ldA (by repeat (first | exact List.Mem.head _ | refine List.Mem.tail _ ?_)) rfl, _, (by rw [hb]; rfl), by omega, by omega, ?_⟩
  have hrow : rowP 42 1 R.gw R.ws.length R.cw (R.ws.map RW.val) = rowP 42 1 (some b) R.ws.length R.cw (R.ws.map RW.val) := by rw [hb]
  have hT6 := T.drop (hT5.swap (List.Perm.swap _ _ _))
  have hT7 := T.drop (hT6.swap (List.Perm.swap _ _ _))
  simp only [List.nil_append, Nat.zero_add] at hT7 ⊢
  have hT8 : T F w0 w5 ((hdr R).take 2 ++ rowP 42 1 (some b) R.ws.length R.cw (R.ws.map RW.val) :: rowP 4 1 R.gp R.sp.length R.cp (R.sp.map .bool) :: rowP 9 1 g5 ((R.ws[i.toNat]).l.length + 1) c5 (((R.ws[i.toNat]).l ++ [s]).map .string) :: (rest ++ X)) := by
    rw [← hrow]
    refine hT7.swap ?_
    exact (List.perm_middle (l₁ := hdr R)).symm
  refine StRow1.t hT8 (.tail (.tail .head)) (by rw [List.length_map]; exact hw) rfl fun w6 hT9 => ?_
  obtain ⟨b2, hb2, hc2⟩ := T.row1 (i := i.toNat) (v := .bool R.sp[i.toNat]) hT9 (show rowP 4 1 R.gp R.sp.length R.cp (R.sp.map .bool) ∈ _ from (by repeat (first | exact List.Mem.head _ | refine List.Mem.tail _ ?_))) (by rw [List.getElem?_map, List.getElem?_eq_getElem hp]; rfl)
  rw [hb2] at hT9
  refine ⟨_, rfl, _, _, _, hT9.ldA (by repeat (first | exact List.Mem.head _ | refine List.Mem.tail _ ?_)) rfl, _, rfl, by omega, by omega, ?_⟩
  refine StRow1.t hT9 (.tail (.tail (.tail .head))) (by rw [List.length_map]; exact hp) rfl fun w7 hT10 => ?_
  have hT11 : T F w0 w7 (refL { R with ws := R.ws.set i.toNat ⟨g5, c5, (R.ws[i.toNat]).l ++ [s]⟩, sp := R.sp.set i.toNat false } ++ X) := by
    have hk : hdr { R with ws := R.ws.set i.toNat ⟨g5, c5, (R.ws[i.toNat]).l ++ [s]⟩, sp := R.sp.set i.toNat false } = [blk R.p #[.slice (ptr R.gs) R.safe.length R.cs, .slice (ptr R.gw) R.ws.length R.cw, .slice (ptr (some b2)) R.sp.length R.cp, .bool R.gone, .bool R.cut, .int .i64 R.left] 54,
        rowP 9 1 R.gs R.safe.length R.cs (R.safe.map .string), rowP 42 1 (some b) R.ws.length R.cw ((R.ws.map RW.val).set i.toNat (.slice (ptr g5) ((R.ws[i.toNat]).l.length + 1) c5)), rowP 4 1 (some b2) R.sp.length R.cp ((R.sp.map .bool).set i.toNat (.bool false))] := by
      rw [← hb, ← hb2]
      simp only [hdr, List.length_set, List.map_set, RW.val, List.length_append, List.length_singleton]
    unfold refL
    rw [hk]
    refine hT10.swap ?_
    have hj := ws_join hw ⟨g5, c5, (R.ws[i.toNat]).l ++ [s]⟩
    have e1 : RW.row ⟨g5, c5, (R.ws[i.toNat]).l ++ [s]⟩ = rowP 9 1 g5 ((R.ws[i.toNat]).l.length + 1) c5 (((R.ws[i.toNat]).l ++ [s]).map .string) := by simp [RW.row]
    rw [e1, hrest] at hj
    have h1 := ((hj.append_right X).append_left [blk R.p #[.slice (ptr R.gs) R.safe.length R.cs, .slice (ptr R.gw) R.ws.length R.cw, .slice (ptr (some b2)) R.sp.length R.cp, .bool R.gone, .bool R.cut, .int .i64 R.left] 54,
        rowP 9 1 R.gs R.safe.length R.cs (R.safe.map .string), rowP 42 1 (some b) R.ws.length R.cw ((R.ws.map RW.val).set i.toNat (.slice (ptr g5) ((R.ws[i.toNat]).l.length + 1) c5)), rowP 4 1 (some b2) R.sp.length R.cp ((R.sp.map .bool).set i.toNat (.bool false))])
    rw [List.append_assoc]
    refine List.Perm.trans ?_ h1
    exact perm4a _ _ _ _ _
  have hu := ruse_r hT11
  refine hu.mono fun e w8 ⟨he, hT12⟩ => ⟨he, by rw [hz], { R with ws := R.ws.set i.toNat ⟨g5, c5, (R.ws[i.toNat]).l ++ [s]⟩, sp := R.sp.set i.toNat false, left := if R.cut then IntKind.i64.wrap (R.left - 1) else R.left }, rfl, ?_, hT12⟩
  rw [AD.write_of hz]
  refine ⟨hA.n1, hA.safe, by show (R.ws.set _ _).length = _; rw [List.length_set, hA.wl], fun j e he => ?_, by show (R.sp.set _ _).length = _; rw [List.length_set, hA.pl], fun j b he => ?_, hA.dead, hA.left (AD.may_on hm).1⟩
  · have h2 : (R.ws.set i.toNat ⟨g5, c5, (R.ws[i.toNat]).l ++ [s]⟩)[j]? = some e := he
    show e.l = if j = i.toNat then a.pend j ++ [s] else a.pend j
    by_cases hj : j = i.toNat
    · subst hj
      rw [List.getElem?_set_self hw] at h2
      rw [if_pos rfl, ← hws]
      exact (congrArg RW.l (Option.some.inj h2)).symm
    · rw [List.getElem?_set_ne (fun h => hj h.symm)] at h2
      rw [if_neg hj]
      exact hA.ws j e h2
  · have h2 : (R.sp.set i.toNat false)[j]? = some b := he
    show b = if j = i.toNat then false else a.spoilt j
    by_cases hj : j = i.toNat
    · subst hj
      rw [List.getElem?_set_self hp] at h2
      rw [if_pos rfl]
      exact (Option.some.inj h2).symm
    · rw [List.getElem?_set_ne (fun h => hj h.symm)] at h2
      rw [if_neg hj]
      exact hA.sp j b h2
end Go.Proofs.YtbecjmfcppginaaGreat
end
section
/-! the reference's drive: what turns, on. -/
namespace Go.Proofs.YtbecjmfcppginaaGreat
open Go.Sh Go.Maps Go.RowKit
set_option linter.unusedVariables false
set_option maxHeartbeats 1000000
set_option maxRecDepth 20000
theorem setSafe {R : RL} {F : List Nat} {w0 w : World} {X : List A} {i : Nat} {s : ByteArray} {K : World → Prop} (hT : T F w0 w (refL R ++ X)) (hi : i < R.safe.length) (hK : ∀ w', T F w0 w' (refL { R with safe := R.safe.set i s } ++ X) → K w') :
    ∃ b, R.gs = some b ∧ St (Addr.add ⟨b, 0, none⟩ (i * 1)) (.string s) w K := by
  obtain ⟨b, hb⟩ := rowP.pos (hT.says (show rowP 9 1 R.gs R.safe.length R.cs (R.safe.map .string) ∈ _ from (by repeat (first | exact List.Mem.head _ | refine List.Mem.tail _ ?_)))) (by omega)
  refine ⟨b, hb, ?_⟩
  have e0 : refL R = blk R.p #[.slice (ptr R.gs) R.safe.length R.cs, .slice (ptr R.gw) R.ws.length R.cw, .slice (ptr R.gp) R.sp.length R.cp, .bool R.gone, .bool R.cut, .int .i64 R.left] 54 :: rowP 9 1 (some b) R.safe.length R.cs (R.safe.map .string) :: ((hdr R).drop 2 ++ R.ws.map RW.row) := by rw [← hb]; rfl
  rw [e0] at hT
  refine StRow1.t hT (.tail .head) (by rw [List.length_map]; exact hi) rfl fun w' h => hK w' ?_
  have e1 : refL { R with safe := R.safe.set i s } = blk R.p #[.slice (ptr R.gs) R.safe.length R.cs, .slice (ptr R.gw) R.ws.length R.cw, .slice (ptr R.gp) R.sp.length R.cp, .bool R.gone, .bool R.cut, .int .i64 R.left] 54 :: rowP 9 1 (some b) R.safe.length R.cs ((R.safe.map .string).set i (.string s)) :: ((hdr R).drop 2 ++ R.ws.map RW.row) := by
    rw [← hb]; simp only [refL, hdr, List.length_set, List.map_set]; rfl
  rw [e1]
  exact h.swap (.swap _ _ _)
theorem setSp {R : RL} {F : List Nat} {w0 w : World} {X : List A} {i : Nat} {v : Bool} {K : World → Prop} (hT : T F w0 w (refL R ++ X)) (hi : i < R.sp.length) (hK : ∀ w', T F w0 w' (refL { R with sp := R.sp.set i v } ++ X) → K w') :
    ∃ b, R.gp = some b ∧ St (Addr.add ⟨b, 0, none⟩ (i * 1)) (.bool v) w K := by
  obtain ⟨b, hb⟩ := rowP.pos (hT.says (show rowP 4 1 R.gp R.sp.length R.cp (R.sp.map .bool) ∈ _ from (by repeat (first | exact List.Mem.head _ | refine List.Mem.tail _ ?_)))) (by omega)
  refine ⟨b, hb, ?_⟩
  have e0 : refL R = (hdr R).take 3 ++ rowP 4 1 (some b) R.sp.length R.cp (R.sp.map .bool) :: R.ws.map RW.row := by rw [← hb]; rfl
  rw [e0] at hT
  refine StRow1.t hT (.tail (.tail (.tail .head))) (by rw [List.length_map]; exact hi) rfl fun w' h => hK w' ?_
  have e1 : refL { R with sp := R.sp.set i v } = (hdr R).take 3 ++ rowP 4 1 (some b) R.sp.length R.cp ((R.sp.map .bool).set i (.bool v)) :: R.ws.map RW.row := by
    rw [← hb]; simp only [refL, hdr, List.length_set, List.map_set]; rfl
  rw [e1]
  refine h.swap ?_
  rw [List.append_assoc]
  exact (List.perm_middle (l₁ := (hdr R).take 3)).symm
theorem setNil {R : RL} {F : List Nat} {w0 w : World} {X : List A} {i : Nat} {K : World → Prop} (hT : T F w0 w (refL R ++ X)) (hi : i < R.ws.length) (hK : ∀ w', T F w0 w' (refL { R with ws := R.ws.set i ⟨none, 0, []⟩ } ++ X) → K w') :
    ∃ b, R.gw = some b ∧ St (Addr.add ⟨b, 0, none⟩ (i * 1)) (.slice none 0 0) w K := by
  obtain ⟨b, hb⟩ := rowP.pos (hT.says (show rowP 42 1 R.gw R.ws.length R.cw (R.ws.map RW.val) ∈ _ from (by repeat (first | exact List.Mem.head _ | refine List.Mem.tail _ ?_)))) (by omega)
  refine ⟨b, hb, ?_⟩
  have hj := ws_join hi ⟨none, 0, []⟩
  have hs := ws_split hi
  generalize hrest : (R.ws.take i ++ R.ws.drop (i + 1)).map RW.row = rest at hj hs
  have e0 : refL R = (hdr R).take 2 ++ rowP 42 1 (some b) R.ws.length R.cw (R.ws.map RW.val) :: rowP 4 1 R.gp R.sp.length R.cp (R.sp.map .bool) :: R.ws.map RW.row := by rw [← hb]; rfl
  rw [e0] at hT
  refine StRow1.t hT (.tail (.tail .head)) (by rw [List.length_map]; exact hi) rfl fun w' h => hK w' ?_
  have e1 : refL { R with ws := R.ws.set i ⟨none, 0, []⟩ } = (hdr R).take 2 ++ rowP 42 1 (some b) R.ws.length R.cw ((R.ws.map RW.val).set i (.slice none 0 0)) :: rowP 4 1 R.gp R.sp.length R.cp (R.sp.map .bool) :: (R.ws.set i ⟨none, 0, []⟩).map RW.row := by
    rw [← hb]; simp only [refL, hdr, List.length_set, List.map_set]; rfl
  rw [e1]
  have h2 : T F w0 w' ((R.ws[i]).row :: (rowP 42 1 (some b) R.ws.length R.cw ((R.ws.map RW.val).set i (.slice none 0 0)) :: ((hdr R).take 2 ++ rowP 4 1 R.gp R.sp.length R.cp (R.sp.map .bool) :: (rest ++ X)))) := by
    refine h.swap ?_
    have h3 : (R.ws.map RW.row ++ X).Perm ((R.ws[i]).row :: (rest ++ X)) := hs.append_right X
    have h4 := h3.append_left (rowP 42 1 (some b) R.ws.length R.cw ((R.ws.map RW.val).set i (.slice none 0 0)) :: ((hdr R).take 2 ++ [rowP 4 1 R.gp R.sp.length R.cp (R.sp.map .bool)]))
    exact h4.trans List.perm_middle
  have h5 := nil_row (T.drop h2)
  refine h5.swap ?_
  have h6 : ((RW.row ⟨none, 0, []⟩ :: rest) ++ X).Perm ((R.ws.set i ⟨none, 0, []⟩).map RW.row ++ X) := hj.append_right X
  have h7 := h6.append_left ((hdr R).take 2 ++ [rowP 42 1 (some b) R.ws.length R.cw ((R.ws.map RW.val).set i (.slice none 0 0)), rowP 4 1 R.gp R.sp.length R.cp (R.sp.map .bool)])
  refine List.Perm.trans ?_ h7
  have h8 : (RW.row ⟨none, 0, []⟩ :: (rowP 42 1 (some b) R.ws.length R.cw ((R.ws.map RW.val).set i (.slice none 0 0)) :: ((hdr R).take 2 ++ rowP 4 1 R.gp R.sp.length R.cp (R.sp.map .bool) :: (rest ++ X)))).Perm
      (RW.row ⟨none, 0, []⟩ :: ((hdr R).take 2 ++ [rowP 42 1 (some b) R.ws.length R.cw ((R.ws.map RW.val).set i (.slice none 0 0)), rowP 4 1 R.gp R.sp.length R.cp (R.sp.map .bool)] ++ (rest ++ X))) := by
    refine List.Perm.cons _ ?_
    rw [List.append_assoc]
    exact (List.perm_middle (l₁ := (hdr R).take 2)).symm
  exact h8.trans List.perm_middle.symm
/-- one sector is settled: n of its writes are kept -/
def keepA (a : AD) (i n : Nat) : AD := { a with safe := if 0 < n then a.safe.set i ((a.pend i).getD (n - 1) noB) else a.safe, pend := fun j => if j = i then [] else a.pend j }
theorem keep_abs {R : RL} {a : AD} (hA : RAbs R a) {i n : Nat} (hi : i < a.safe.length) {safe' : List ByteArray} (hs : safe' = if 0 < n then a.safe.set i ((a.pend i).getD (n - 1) noB) else a.safe) : RAbs { R with safe := safe', ws := R.ws.set i ⟨none, 0, []⟩ } (keepA a i n) := by
  have hl : (keepA a i n).safe.length = a.safe.length := by
    unfold keepA
    simp only
    split
    · rw [List.length_set]
    · rfl
  refine ⟨by rw [hl]; exact hA.n1, hs, ?_, fun j e he => ?_, by rw [hl]; exact hA.pl, hA.sp, hA.dead, hA.power⟩
  · show (R.ws.set i ⟨none, 0, []⟩).length = _
    rw [List.length_set, hl]; exact hA.wl
  · have h2 : (R.ws.set i ⟨none, 0, []⟩)[j]? = some e := he
    show e.l = if j = i then [] else a.pend j
    by_cases hj : j = i
    · subst hj
      rw [List.getElem?_set_self (by rw [hA.wl]; exact hi)] at h2
      rw [if_pos rfl]
      exact (congrArg RW.l (Option.some.inj h2)).symm
    · rw [List.getElem?_set_ne (fun h => hj h.symm)] at h2
      rw [if_neg hj]
      exact hA.ws j e h2
theorem rkeep_r {p : Nat} {a : AD} {F : List Nat} {w0 w : World} {X : List A} (h : Rf p a F w0 w X) (hF : a.Few 1000000) {i n : Nat} (hi : i < a.safe.length) (hn : n ≤ (a.pend i).length) :
    Calls Tryz.prog 52 #[.pointer (some ⟨p, 0, none⟩), .int .i64 i, .int .i64 n] w fun e w' => e = .returned (.tuple #[]) ∧ Rf p (keepA a i n) F w0 w' X := by
  obtain ⟨R, rfl, hA, hT⟩ := h
  refine (revetmentref04_Drive_keep_calls (R := fun v w' => v = .tuple #[] ∧ Rf R.p (keepA a i n) F w0 w' X) ?_).mono fun e w' ⟨v, he, hv, ht⟩ => ⟨hv ▸ he, ht⟩
  unfold revetmentref04_Drive_keep
  have hw : i < R.ws.length := by rw [hA.wl]; exact hi
  have hs : i < R.safe.length := by rw [hA.safe]; exact hi
  have hws := hA.ws i _ (List.getElem?_eq_getElem hw)
  refine Join.intro fun J hJ => ?_
  have fin : ∀ (safe' : List ByteArray) (w1 : World), safe'.length = R.safe.length → T F w0 w1 (refL { R with safe := safe' } ++ X) → (safe' = if 0 < n then a.safe.set i ((a.pend i).getD (n - 1) noB) else a.safe) → J [] w1 := by
    intro safe' w1 hl hT1 hs'
    refine hJ _ _ ⟨rfl, _, rfl, ?_⟩
    obtain ⟨b, hb, hst⟩ := setNil (R := { R with safe := safe' }) (i := i) hT1 hw fun w' hT2 => (⟨rfl, { R with safe := safe', ws := R.ws.set i ⟨none, 0, []⟩ }, rfl, keep_abs hA hi hs', hT2⟩ : Value.tuple #[] = Value.tuple #[] ∧ Rf R.p (keepA a i n) F w0 w' X)
    have hb : R.gw = some b := hb
    refine ⟨_, _, _, hT1.ldA (by repeat (first | exact List.Mem.head _ | refine List.Mem.tail _ ?_)) rfl, _, (by show ptr R.gw = _; rw [hb]; rfl), by omega, by show (i : Int) < (R.ws.length : Int); omega, ?_⟩
    exact hst
  refine ⟨dec_t fun hpos => ?_, dec_f fun hz => fin R.safe w rfl hT (by rw [if_neg (by omega), hA.safe])⟩
  have hfl := hF i
  have w1' : IntKind.i64.wrap ((n : Int) - 1) = ((n - 1 : Nat) : Int) := by rw [wrap64 _ (by omega) (by omega)]; omega
  rw [w1']
  have hlt : n - 1 < (R.ws[i]).l.length := by rw [hws]; omega
  have hTd := hT.drew
  have hmem : (R.ws[i]).row ∈ refL R ++ X := List.mem_append_left _ (List.mem_append_right _ (List.mem_map_of_mem (List.getElem_mem hw)))
  obtain ⟨b1, hb1, _⟩ := T.row1 (i := i) (v := (R.ws[i]).val) hTd (show rowP 42 1 R.gw R.ws.length R.cw (R.ws.map RW.val) ∈ _ from (by repeat (first | exact List.Mem.head _ | refine List.Mem.tail _ ?_))) (by rw [List.getElem?_map, List.getElem?_eq_getElem hw]; rfl)
  obtain ⟨b2, hb2, _⟩ := T.row1 (i := n - 1) (v := .string (R.ws[i]).l[n - 1]) hTd (show rowP 9 1 (R.ws[i]).g (R.ws[i]).l.length (R.ws[i]).cap ((R.ws[i]).l.map .string) ∈ _ from hmem) (by rw [List.getElem?_map, List.getElem?_eq_getElem hlt]; rfl)
  obtain ⟨b3, hb3, hst⟩ := setSafe (i := i) (s := (R.ws[i]).l[n - 1]) (K := fun w3 => J [] w3) hTd hs fun w' hT2 => fin _ w' (by rw [List.length_set]) hT2 (by
    rw [if_pos (by omega), ← hA.safe]
    congr 1
    rw [← hws, List.getD_eq_getElem?_getD, List.getElem?_eq_getElem hlt]; rfl)
  refine ⟨fun w => T F w0 w (refL R ++ X), hTd, _, rfl, _, _, _, fun w h => h.ld (by repeat (first | exact List.Mem.head _ | refine List.Mem.tail _ ?_)) rfl, _, rfl, _, _, _, fun w h => h.ldA (by repeat (first | exact List.Mem.head _ | refine List.Mem.tail _ ?_)) rfl, _, by rw [hb1]; rfl, by omega, by omega, ptr (R.ws[i]).g, (R.ws[i]).l.length, (R.ws[i]).cap, fun w h => ?_, _, by rw [hb2]; rfl, by omega, by omega, _, fun w h => ?_, _, by rw [hb3]; rfl, by omega, by omega, hst⟩
  · obtain ⟨b4, hb4, hc⟩ := T.row1 (i := i) (v := (R.ws[i]).val) h (show rowP 42 1 R.gw R.ws.length R.cw (R.ws.map RW.val) ∈ _ from (by repeat (first | exact List.Mem.head _ | refine List.Mem.tail _ ?_))) (by rw [List.getElem?_map, List.getElem?_eq_getElem hw]; rfl)
    rw [hb1] at hb4; cases hb4
    exact hc
  · obtain ⟨b4, hb4, hc⟩ := T.row1 (i := n - 1) (v := .string (R.ws[i]).l[n - 1]) h (show rowP 9 1 (R.ws[i]).g (R.ws[i]).l.length (R.ws[i]).cap ((R.ws[i]).l.map .string) ∈ _ from hmem) (by rw [List.getElem?_map, List.getElem?_eq_getElem hlt]; rfl)
    rw [hb2] at hb4; cases hb4
    exact hc
theorem rspoil_r {p : Nat} {a : AD} {F : List Nat} {w0 w : World} {X : List A} (h : Rf p a F w0 w X) (i : Int) :
    Calls Tryz.prog 20 #[.pointer (some ⟨p, 0, none⟩), .int .i64 i] w fun e w' => e = .returned (.int .i64 (a.may i)) ∧ Rf p (a.spoil i) F w0 w' X := by
  have h0 := h
  obtain ⟨R, rfl, hA, hT⟩ := h
  refine (revetmentref04_Drive_Spoil_calls (R := fun v w' => v = .int .i64 (a.may i) ∧ Rf R.p (a.spoil i) F w0 w' X) ?_).mono fun e w' ⟨v, he, hv, ht⟩ => ⟨hv ▸ he, ht⟩
  unfold revetmentref04_Drive_Spoil
  refine (rmay_r h0 i).mono fun e w1 ⟨he, hx⟩ => ⟨_, he, beq_t fun hm => ?_, beq_f fun hm => ⟨rfl, ?_⟩⟩
  · have hi := AD.may_zero hm
    have hp : i.toNat < R.sp.length := by rw [hA.pl]; omega
    have hT1 := hT.quiet hx
    have ha : a.spoil i = { a with spoilt := fun j => if j = i.toNat then true else a.spoilt j } := by unfold AD.spoil; rw [if_neg (by simpa using hm)]
    obtain ⟨b, hb, hst⟩ := setSp (i := i.toNat) (v := true) hT1 hp fun w' hT2 => (⟨rfl, { R with sp := R.sp.set i.toNat true }, rfl, by
      rw [ha]
      refine ⟨hA.n1, hA.safe, hA.wl, hA.ws, by show (R.sp.set _ _).length = _; rw [List.length_set]; exact hA.pl, fun j x hx => ?_, hA.dead, hA.power⟩
      have h2 : (R.sp.set i.toNat true)[j]? = some x := hx
      show x = if j = i.toNat then true else a.spoilt j
      by_cases hj : j = i.toNat
      · subst hj
        rw [List.getElem?_set_self hp] at h2
        rw [if_pos rfl]
        exact (Option.some.inj h2).symm
      · rw [List.getElem?_set_ne (fun h => hj h.symm)] at h2
        rw [if_neg hj]
        exact hA.sp j x h2, hT2⟩ : Value.int .i64 (a.may i) = Value.int .i64 (a.may i) ∧ Rf R.p (a.spoil i) F w0 w' X)
    exact ⟨_, rfl, _, _, _, hT1.ldA (by repeat (first | exact List.Mem.head _ | refine List.Mem.tail _ ?_)) rfl, _, by rw [hb]; rfl, by omega, by omega, hst⟩
  · unfold AD.spoil
    rw [if_pos hm]
    exact h0.quiet hx
end Go.Proofs.YtbecjmfcppginaaGreat
end
section
/-! the reference's drive: Flush, Crash, Off, New. -/
namespace Go.Proofs.YtbecjmfcppginaaGreat
open Go.Sh Go.Maps Go.RowKit
set_option linter.unusedVariables false
set_option maxHeartbeats 1000000
set_option maxRecDepth 20000
def cnt (pend : Nat → List ByteArray) : Nat → Nat → Nat
  | _, 0 => 0
  | i, n + 1 => (if pend i = [] then 0 else 1) + cnt pend (i + 1) n
theorem cnt_snoc (pend : Nat → List ByteArray) : ∀ (n i : Nat), cnt pend i (n + 1) = cnt pend i n + if pend (i + n) = [] then 0 else 1
  | 0, i => by simp [cnt]
  | n + 1, i => by
    have h := cnt_snoc pend n (i + 1)
    rw [show i + 1 + n = i + (n + 1) by omega] at h
    show (if pend i = [] then 0 else 1) + cnt pend (i + 1) (n + 1) = (if pend i = [] then 0 else 1) + cnt pend (i + 1) n + _
    rw [h]
    omega
theorem cnt_le (pend : Nat → List ByteArray) : ∀ (n i : Nat), cnt pend i n ≤ n
  | 0, i => Nat.le_refl _
  | n + 1, i => by
    have h := cnt_le pend n (i + 1)
    show (if pend i = [] then 0 else 1) + cnt pend (i + 1) n ≤ n + 1
    split <;> omega
theorem keptFrom_snoc (g : Nat → Nat → Nat) (pend : Nat → List ByteArray) (s : ByteArray) : ∀ (l : List ByteArray) (i k : Nat),
    keptFrom g pend i k (l ++ [s]) = keptFrom g pend i k l ++ [if pend (i + l.length) = [] then s else if 0 < g (k + cnt pend i l.length) (pend (i + l.length)).length then (pend (i + l.length)).getD (g (k + cnt pend i l.length) (pend (i + l.length)).length - 1) noB else s]
  | [], i, k => by
    simp only [List.nil_append, keptFrom, List.length_nil, Nat.add_zero, cnt]
    split <;> rfl
  | x :: l, i, k => by
    have h1 := keptFrom_snoc g pend s l (i + 1) k
    have h2 := keptFrom_snoc g pend s l (i + 1) (k + 1)
    rw [show i + 1 + l.length = i + (x :: l).length by simp; omega] at h1 h2
    simp only [List.cons_append, keptFrom]
    have hc : cnt pend i (x :: l).length = (if pend i = [] then 0 else 1) + cnt pend (i + 1) l.length := rfl
    by_cases hp : pend i = []
    · rw [if_pos hp, if_pos hp, h1, hc, if_pos hp, Nat.zero_add]; rfl
    · rw [if_neg hp, if_neg hp, h2, hc, if_neg hp, show k + 1 + cnt pend (i + 1) l.length = k + (1 + cnt pend (i + 1) l.length) by omega]; rfl
/-- the first i sectors are settled -/
def AD.part (a : AD) (g : Nat → Nat → Nat) (i : Nat) : AD := { a with safe := keptFrom g a.pend 0 0 (a.safe.take i) ++ a.safe.drop i, pend := fun j => if j < i then [] else a.pend j }
theorem part_zero (a : AD) (g : Nat → Nat → Nat) : a.part g 0 = a := by
  unfold AD.part
  simp [keptFrom]
theorem part_len (a : AD) (g : Nat → Nat → Nat) (i : Nat) : (a.part g i).safe.length = a.safe.length := by
  simp [AD.part, keptFrom_len]; omega
theorem part_step (a : AD) (g : Nat → Nat → Nat) {i : Nat} (hi : i < a.safe.length) : a.part g (i + 1) = keepA (a.part g i) i (if a.pend i = [] then 0 else g (cnt a.pend 0 i) (a.pend i).length) := by
  have hpi : (a.part g i).pend i = a.pend i := by simp [AD.part]
  have hpend : (fun j => if j < i + 1 then [] else a.pend j) = fun j => if j = i then ([] : List ByteArray) else if j < i then [] else a.pend j := by
    funext j
    by_cases h1 : j = i
    · subst h1; simp
    · by_cases h2 : j < i
      · rw [if_pos (by omega), if_neg h1, if_pos h2]
      · rw [if_neg (by omega), if_neg h1, if_neg h2]
  have htake : a.safe.take (i + 1) = a.safe.take i ++ [a.safe[i]] := by rw [List.take_add_one, List.getElem?_eq_getElem hi]; rfl
  have hdrop : a.safe.drop i = a.safe[i] :: a.safe.drop (i + 1) := by rw [List.drop_eq_getElem_cons hi]
  have hlt : (a.safe.take i).length = i := by rw [List.length_take]; omega
  have hkl : (keptFrom g a.pend 0 0 (a.safe.take i)).length = i := by rw [keptFrom_len, hlt]
  have hsafe : keptFrom g a.pend 0 0 (a.safe.take (i + 1)) ++ a.safe.drop (i + 1) = if 0 < (if a.pend i = [] then 0 else g (cnt a.pend 0 i) (a.pend i).length) then (keptFrom g a.pend 0 0 (a.safe.take i) ++ a.safe.drop i).set i ((a.pend i).getD ((if a.pend i = [] then 0 else g (cnt a.pend 0 i) (a.pend i).length) - 1) noB) else keptFrom g a.pend 0 0 (a.safe.take i) ++ a.safe.drop i := by
    rw [htake, keptFrom_snoc, hlt, Nat.zero_add, Nat.zero_add, hdrop, List.append_assoc]
    by_cases hp : a.pend i = []
    · simp only [hp, if_true, Nat.lt_irrefl, if_false]; rfl
    · simp only [hp, if_false]
      split
      · rw [List.set_append_right _ _ (by omega), hkl, Nat.sub_self, List.set_cons_zero]; rfl
      · rfl
  unfold keepA
  rw [hpi]
  show AD.mk _ _ _ _ _ = AD.mk _ _ _ _ _
  rw [hpend, hsafe]
  rfl
theorem part_skip (a : AD) (g : Nat → Nat → Nat) {i : Nat} (hi : i < a.safe.length) (hp : a.pend i = []) : a.part g (i + 1) = a.part g i := by
  rw [part_step a g hi, if_pos hp]
  unfold keepA
  have : (fun j => if j = i then [] else (a.part g i).pend j) = (a.part g i).pend := by
    funext j
    by_cases h1 : j = i
    · subst h1; simp [AD.part, hp]
    · rw [if_neg h1]
  rw [this]
  simp
theorem part_end {R : RL} {a : AD} {g : Nat → Nat → Nat} (h : RAbs R (a.part g a.safe.length)) : RAbs R (a.settle g) := by
  have hs : (a.part g a.safe.length).safe = keptFrom g a.pend 0 0 a.safe := by simp [AD.part]
  have hl : (a.settle g).safe.length = a.safe.length := by show (keptFrom g a.pend 0 0 a.safe).length = _; rw [keptFrom_len]
  have hw := h.wl
  have hpl := h.pl
  rw [part_len] at hw hpl
  refine ⟨by rw [hl, ← part_len a g a.safe.length]; exact h.n1, by rw [h.safe, hs]; rfl, by rw [hl]; exact hw, fun j e he => ?_, by rw [hl]; exact hpl, h.sp, h.dead, h.power⟩
  have hj := (List.getElem?_eq_some_iff.1 he).1
  rw [h.ws j e he]
  show (if j < a.safe.length then [] else a.pend j) = []
  rw [if_pos (by omega)]
theorem part_few {a : AD} {N : Nat} (h : a.Few N) (g : Nat → Nat → Nat) (i : Nat) : (a.part g i).Few N := by
  intro j
  show (if j < i then [] else a.pend j).length ≤ N
  split
  · exact Nat.zero_le _
  · exact h j
theorem rflush_r {p : Nat} {a : AD} {F : List Nat} {w0 w : World} {X : List A} (h : Rf p a F w0 w X) (hF : a.Few 1000000) :
    Calls Tryz.prog 41 #[.pointer (some ⟨p, 0, none⟩)] w fun e w' => e = .returned (.int .i64 a.flush1) ∧ Rf p a.flush F w0 w' X := by
  have h0 := h
  obtain ⟨R, rfl, hA, hT⟩ := h
  refine (revetmentref04_Drive_Flush_calls (R := fun v w' => v = .int .i64 a.flush1 ∧ Rf R.p a.flush F w0 w' X) ?_).mono fun e w' ⟨v, he, hv, ht⟩ => ⟨hv ▸ he, ht⟩
  unfold revetmentref04_Drive_Flush
  have hd := hA.dead
  have fail : ∀ n, a.flush1 = n → n ≠ 0 → ∀ w1, Ext w w1 → Value.int .i64 n = .int .i64 a.flush1 ∧ Rf R.p a.flush F w0 w1 X := fun n hn h1 w1 hx => by
    refine ⟨by rw [hn], ?_⟩
    unfold AD.flush
    rw [if_pos (by rw [hn]; exact h1)]
    exact h0.quiet hx
  refine ⟨_, rfl, _, hT.ldA (by repeat (first | exact List.Mem.head _ | refine List.Mem.tail _ ?_)) rfl, fun hc => fail 40 (by unfold AD.flush1; rw [if_pos (by rw [← hd]; exact hc)]) (by decide) _ (.refl w), fun hc => ?_⟩
  have hnd : ¬ a.dead = true := by rw [← hd, hc]; simp
  refine (roff_r h0).mono fun e w1 ⟨he, hx⟩ => ⟨_, he, fun ho => fail 42 (by unfold AD.flush1; rw [if_neg hnd, if_pos ho]) (by decide) _ hx, fun ho => ?_⟩
  have hz : a.flush1 = 0 := by unfold AD.flush1; rw [if_neg hnd, if_neg (by rw [ho]; simp)]
  refine (ruse_r (hT.quiet hx)).mono fun e w2 ⟨he, hT2⟩ => ⟨he, ?_⟩
  have hA1 : RAbs { R with left := if R.cut then IntKind.i64.wrap (R.left - 1) else R.left } { a with power := a.power.map (· - 1) } := ⟨hA.n1, hA.safe, hA.wl, hA.ws, hA.pl, hA.sp, hA.dead, hA.left ho⟩
  have h2 : Rf R.p { a with power := a.power.map (· - 1) } F w0 w2 X := ⟨{ R with left := if R.cut then IntKind.i64.wrap (R.left - 1) else R.left }, rfl, hA1, hT2⟩
  rw [hz, AD.flush_of hz]
  have hF1 : ({ a with power := a.power.map (· - 1) } : AD).Few 1000000 := hF
  generalize ({ a with power := a.power.map (· - 1) } : AD) = b at h2 hF1
  clear hA1 hT2 hA hT
  refine ⟨fun vs w' => ∃ i : Nat, vs = [.int .i64 i] ∧ i ≤ b.safe.length ∧ b.safe.length ≤ 4096 ∧ Rf R.p (b.part (fun _ m => m) i) F w0 w' X, fun vs _ => match vs with | [.int _ i] => (5000 - i).toNat | _ => 0, ⟨0, rfl, by omega, (by obtain ⟨_, _, hA, _⟩ := h2; exact hA.n1), by rw [part_zero]; exact h2⟩, ?_⟩
  rintro vs w3 ⟨i, rfl, hib, hn1, hR⟩
  have hR0 := hR
  obtain ⟨R3, hp3, hA3, hT3⟩ := hR
  have hwl := hA3.wl
  rw [part_len] at hwl
  refine ⟨_, rfl, ⟨R3.p, 0, none⟩, by rw [hp3], _, _, _, hT3.ldA (by repeat (first | exact List.Mem.head _ | refine List.Mem.tail _ ?_)) rfl, dec_t fun hlt => ?_, dec_f fun hge => ⟨rfl, R3, hp3, ?_, hT3⟩⟩
  · have hi : i < b.safe.length := by omega
    have hw : i < R3.ws.length := by omega
    obtain ⟨q, hq, hc⟩ := T.row1 (i := i) (v := (R3.ws[i]).val) hT3 (show rowP 42 1 R3.gw R3.ws.length R3.cw (R3.ws.map RW.val) ∈ _ from (by repeat (first | exact List.Mem.head _ | refine List.Mem.tail _ ?_))) (by rw [List.getElem?_map, List.getElem?_eq_getElem hw]; rfl)
    have hws := hA3.ws i _ (List.getElem?_eq_getElem hw)
    have hpi : (b.part (fun _ m => m) i).pend i = b.pend i := by simp [AD.part]
    rw [hpi] at hws
    refine ⟨⟨R3.p, 0, none⟩, by rw [hp3], _, _, _, hT3.ldA (by repeat (first | exact List.Mem.head _ | refine List.Mem.tail _ ?_)) (by rw [hq]; rfl), _, rfl, by omega, by omega, _, _, _, hc, ?_⟩
    have hk := rkeep_r hR0 (part_few hF1 _ i) (i := i) (n := (b.pend i).length) (by rw [part_len]; exact hi) (by rw [hpi]; exact Nat.le_refl _)
    rw [hws]
    refine hk.mono fun e w4 ⟨he, h4⟩ => ⟨he, ⟨i + 1, by rw [wrap64 _ (by omega) (by omega)]; rfl, by omega, hn1, ?_⟩, ?_⟩
    · rw [part_step b _ hi]
      have : (if b.pend i = [] then 0 else (fun _ m => m) (cnt b.pend 0 i) (b.pend i).length) = (b.pend i).length := by
        split
        · rename_i h; rw [h]; rfl
        · rfl
      rw [this]
      exact h4
    · show ((5000 : Int) - IntKind.i64.wrap ((i : Int) + 1)).toNat < ((5000 : Int) - (i : Int)).toNat
      rw [wrap64 _ (by omega) (by omega)]; omega
  · have hi : i = b.safe.length := by omega
    rw [hi] at hA3
    exact part_end hA3
theorem rcrash_r {p : Nat} {a : AD} {F : List Nat} {w0 w : World} {X : List A} (h : Rf p a F w0 w X) (hF : a.Few 1000000) (keep : List UInt8) (q : Option Addr) (c : Nat) (hkl : keep.length ≤ 1000000)
    (hk : ∀ w1, T F w0 w1 X → bytesAt w1 q keep) :
    Calls Tryz.prog 15 #[.pointer (some ⟨p, 0, none⟩), .slice q keep.length c] w fun e w' => e = .returned (.tuple #[]) ∧ Rf p (a.crash keep) F w0 w' X := by
  obtain ⟨R, rfl, hA, hT⟩ := h
  refine (revetmentref04_Drive_Crash_calls (R := fun v w' => v = .tuple #[] ∧ Rf R.p (a.crash keep) F w0 w' X) ?_).mono fun e w' ⟨v, he, hv, ht⟩ => ⟨hv ▸ he, ht⟩
  unfold revetmentref04_Drive_Crash
  refine ⟨_, rfl, ?_⟩
  refine St.tA hT .head (by simp) (by rfl) rfl fun w1 hT1 => ?_
  have hT1' : T F w0 w1 (refL { R with cut := false } ++ X) := hT1
  have h2 : Rf R.p { a with power := none } F w0 w1 X := ⟨{ R with cut := false }, rfl, ⟨hA.n1, hA.safe, hA.wl, hA.ws, hA.pl, hA.sp, hA.dead, rfl⟩, hT1'⟩
  have hF1 : ({ a with power := none } : AD).Few 1000000 := hF
  have hcr : a.crash keep = ({ a with power := none } : AD).settle (keepG keep) := rfl
  rw [hcr]
  generalize ({ a with power := none } : AD) = b at h2 hF1
  clear hT1' hT1 hA hT
  refine ⟨fun vs w' => ∃ i : Nat, vs = [.int .i64 (cnt b.pend 0 i), .int .i64 i] ∧ i ≤ b.safe.length ∧ b.safe.length ≤ 4096 ∧ Rf R.p (b.part (keepG keep) i) F w0 w' X, fun vs _ => match vs with | [_, .int _ i] => (5000 - i).toNat | _ => 0, ⟨0, rfl, by omega, (by obtain ⟨_, _, hA, _⟩ := h2; exact hA.n1), by rw [part_zero]; exact h2⟩, ?_⟩
  rintro vs w3 ⟨i, rfl, hib, hn1, hR⟩
  have hR0 := hR
  obtain ⟨R3, hp3, hA3, hT3⟩ := hR
  have hwl := hA3.wl
  rw [part_len] at hwl
  refine ⟨_, _, rfl, ⟨R3.p, 0, none⟩, by rw [hp3], _, _, _, hT3.ldA (by repeat (first | exact List.Mem.head _ | refine List.Mem.tail _ ?_)) rfl, dec_t fun hlt => ?_, dec_f fun hge => ⟨rfl, R3, hp3, ?_, hT3⟩⟩
  · have hi : i < b.safe.length := by omega
    have hw : i < R3.ws.length := by omega
    obtain ⟨q1, hq, hc⟩ := T.row1 (i := i) (v := (R3.ws[i]).val) hT3 (show rowP 42 1 R3.gw R3.ws.length R3.cw (R3.ws.map RW.val) ∈ _ from (by repeat (first | exact List.Mem.head _ | refine List.Mem.tail _ ?_))) (by rw [List.getElem?_map, List.getElem?_eq_getElem hw]; rfl)
    have hws := hA3.ws i _ (List.getElem?_eq_getElem hw)
    have hpi : (b.part (keepG keep) i).pend i = b.pend i := by simp [AD.part]
    rw [hpi] at hws
    have wr : IntKind.i64.wrap ((i : Int) + 1) = ((i + 1 : Nat) : Int) := by rw [wrap64 _ (by omega) (by omega)]; omega
    have hcl := cnt_le b.pend i 0
    have meas : ((5000 : Int) - ((i + 1 : Nat) : Int)).toNat < ((5000 : Int) - (i : Int)).toNat := by omega
    refine ⟨⟨R3.p, 0, none⟩, by rw [hp3], _, _, _, hT3.ldA (by repeat (first | exact List.Mem.head _ | refine List.Mem.tail _ ?_)) (by rw [hq]; rfl), _, rfl, by omega, by omega, _, _, _, hc, ?_⟩
    rw [hws, wr]
    have hfl := hF1 i
    refine ⟨beq_t fun hz => ?_, beq_f fun hz => ?_⟩
    · have hpn : b.pend i = [] := List.eq_nil_of_length_eq_zero (by omega)
      refine ⟨⟨i + 1, ?_, by omega, hn1, by rw [part_skip b _ hi hpn]; exact hR0⟩, meas⟩
      rw [cnt_snoc, Nat.zero_add, if_pos hpn]; rfl
    · have hpn : b.pend i ≠ [] := by intro h; rw [h] at hz; simp at hz
      refine Join.intro fun J hJ => ?_
      have go : J [.int .i64 (keepG keep (cnt b.pend 0 i) (b.pend i).length)] w3 := by
        refine hJ _ _ ⟨_, rfl, ?_⟩
        have hk := rkeep_r hR0 (part_few hF1 _ i) (i := i) (n := keepG keep (cnt b.pend 0 i) (b.pend i).length) (by rw [part_len]; exact hi) (by rw [hpi]; exact keepG_le _ _ _)
        refine hk.mono fun e w4 ⟨he, h4⟩ => ⟨he, ⟨i + 1, ?_, by omega, hn1, ?_⟩, meas⟩
        · rw [cnt_snoc, Nat.zero_add, if_neg hpn, wrap64 _ (by omega) (by omega)]; rfl
        · rw [part_step b _ hi, if_neg hpn]
          exact h4
      refine ⟨dec_t fun h0 => ?_, dec_f fun h0 => ?_⟩
      · have hb := hk w3 (T.dropAll hT3)
        have hne : keep ≠ [] := by intro e; rw [e] at h0; simp at h0
        obtain ⟨ad, had⟩ := hb.1 hne
        have hlt2 : cnt b.pend 0 i % keep.length < keep.length := Nat.mod_lt _ (by omega)
        have htm : Int.tmod (cnt b.pend 0 i : Int) (keep.length : Int) = ((cnt b.pend 0 i % keep.length : Nat) : Int) := by rw [Int.tmod_eq_emod_of_nonneg (by omega)]; omega
        have h8 : (keep[cnt b.pend 0 i % keep.length]).toNat < 256 := (keep[cnt b.pend 0 i % keep.length]).toNat_lt
        have wm : IntKind.i64.wrap (((b.pend i).length : Int) + 1) = (((b.pend i).length + 1 : Nat) : Int) := by rw [wrap64 _ (by omega) (by omega)]; omega
        rw [wm, htm]
        refine ⟨by omega, ad, had, by omega, by omega, ((keep[cnt b.pend 0 i % keep.length]).toNat : Int), ?_, by omega, ?_⟩
        · rw [show ((cnt b.pend 0 i % keep.length : Nat) : Int).toNat * 1 = cnt b.pend 0 i % keep.length by omega]
          exact hb.2 ad had _ _ (List.getElem?_eq_getElem hlt2)
        · rw [wrap64 _ (by omega) (by omega), Int.tmod_eq_emod_of_nonneg (by omega)]
          have e1 : keepG keep (cnt b.pend 0 i) (b.pend i).length = (keep[cnt b.pend 0 i % keep.length]).toNat % ((b.pend i).length + 1) := by
            unfold keepG
            rw [if_neg (by omega), List.getD_eq_getElem?_getD, List.getElem?_eq_getElem hlt2]; rfl
          rw [e1] at go
          have e2 : (((keep[cnt b.pend 0 i % keep.length]).toNat : Int) % (((b.pend i).length + 1 : Nat) : Int)) = (((keep[cnt b.pend 0 i % keep.length]).toNat % ((b.pend i).length + 1) : Nat) : Int) := by push_cast; rfl
          rw [e2]
          exact go
      · have e1 : keepG keep (cnt b.pend 0 i) (b.pend i).length = 0 := by unfold keepG; rw [if_pos (by omega)]
        rw [e1] at go
        exact go
  · have hi : i = b.safe.length := by omega
    rw [hi] at hA3
    exact part_end hA3
/-- r.Gone = true -/
theorem rgone {p : Nat} {a : AD} {F : List Nat} {w0 w : World} {X : List A} {K : World → Prop} (h : Rf p a F w0 w X) (hK : ∀ w', Rf p a.die F w0 w' X → K w') : St (Addr.add ⟨p, 0, none⟩ 3) (.bool true) w K := by
  obtain ⟨R, rfl, hA, hT⟩ := h
  exact St.tA hT .head (by simp) (by rfl) rfl fun w1 hT1 => hK w1 ⟨{ R with gone := true }, rfl, ⟨hA.n1, hA.safe, hA.wl, hA.ws, hA.pl, hA.sp, rfl, hA.power⟩, hT1⟩
theorem push_t {P : Program} {F : List Nat} {w0 w : World} {Γ Δ : List A} {t e : TypeId} {i : TypeInfo} {z v : Value} (ht : P.underlying t = some (.slice e)) (hi : P.info? e = some i) (hz : i.zero = some z) (hsize : i.size = 1) (hzs : z.cells.size = 1) (hby : decide (i.bytes ≤ 1000000) = true)
    {g : Option Nat} {n cap : Nat} {xs : List Value} (hT : T F w0 w Γ) (hk : Pick (rowP e 1 g n cap xs) Γ Δ) (hv : v.oneCell' = true) (hn : n ≤ 1000000) {K : Option Addr → Nat → Nat → World → Prop} (hK : ∀ g' cap' w', T F w0 w' (rowP e 1 g' (n + 1) cap' (xs ++ [v]) :: Δ) → K (ptr g') (n + 1) cap' w') :
    Alloc #[v] e w fun k w1 => ∃ (p : Option Addr) (l c : Nat), ∃ w2, (builtin .append #[t, t] t #[false, false] #[.slice (ptr g) n cap, .slice (some ⟨k, 0, none⟩) 1 1]).run P w1 = .ok (.value (.slice p l c)) w2 ∧ K p l c w2 := by
  refine Alloc.t hT fun k w1 hT1 => ?_
  have hby' : i.bytes ≤ 1000000 := of_decide_eq_true hby
  have hmul : (n + 1) * i.bytes ≤ 1000001 * 1000000 := Nat.mul_le_mul (by omega) hby'
  obtain ⟨g', cap', w', hr, hT'⟩ := append_t (ty := t) #[false, false] ht hi hz hsize hzs hT1 (.tail hk) (a := ⟨k, 0, none⟩) (m := 1) (c := 1) (news := [v]) rfl (fun j u hu => by
      rw [addr_add, Nat.zero_add]
      exact hT1.ld (by repeat (first | exact List.Mem.head _ | refine List.Mem.tail _ ?_)) (by simpa using hu)) (fun u hu => by obtain rfl := List.mem_singleton.1 hu; exact hv) (by simp only [maxLen]; omega) (by omega)
  exact ⟨_, _, _, w', hr, hK g' cap' w' (T.drop (hT'.swap (.swap _ _ _)))⟩
theorem perm4b {α : Type} (d c b a : α) (l : List α) : (d :: c :: b :: a :: l).Perm (a :: b :: c :: d :: l) := by
  have h1 := List.reverse_perm [a, b, c, d]
  exact h1.append_right l
theorem rnew_r (n : Nat) {F : List Nat} {w0 w : World} {X : List A} (hT : T F w0 w X) (hn : 1 ≤ n ∧ n ≤ 4096) :
    Calls Tryz.prog 7 #[.int .i64 n] w fun e w' => ∃ p, e = .returned (.pointer (some ⟨p, 0, none⟩)) ∧ Rf p (AD.new n) F w0 w' X := by
  refine (revetmentref04_New_calls (R := fun v w' => ∃ p, v = .pointer (some ⟨p, 0, none⟩) ∧ Rf p (AD.new n) F w0 w' X) ?_).mono fun e w' ⟨v, he, p, hv, ht⟩ => ⟨p, hv ▸ he, ht⟩
  unfold revetmentref04_New
  refine ⟨dec_t fun h => absurd h (by omega), dec_f fun _ => ⟨dec_t fun h => absurd h (by omega), dec_f fun _ => ?_⟩⟩
  refine Alloc.t hT fun k w1 hT1 => (blank_spec w1).mono fun e w2 ⟨he, hx⟩ => ⟨_, he, ?_⟩
  have nils : ∀ m : Nat, (List.replicate m (⟨none, 0, []⟩ : RW)).map RW.row = List.replicate m (RW.row ⟨none, 0, []⟩) := fun m => by simp
  have hT2 : T F w0 w2 (refL ⟨k, none, 0, none, 0, none, 0, [], [], [], false, false, 0⟩ ++ X) := ((((hT1.quiet hx).swap (.refl _)).nilRow 4 1).nilRow 42 1).nilRow 9 1 |>.swap (by
    exact (List.perm_middle (l₁ := [rowP 9 1 none 0 0 [], rowP 42 1 none 0 0 [], rowP 4 1 none 0 0 []])))
  refine ⟨fun vs w' => ∃ (i : Nat) (gs gw gp : Option Nat) (cs cw cp : Nat), vs = [.int .i64 i] ∧ i ≤ n ∧ T F w0 w' (refL ⟨k, gs, cs, gw, cw, gp, cp, List.replicate i zeroSec, List.replicate i ⟨none, 0, []⟩, List.replicate i false, false, false, 0⟩ ++ X), fun vs _ => match vs with | [.int _ i] => (n - i).toNat | _ => 0, ⟨0, none, none, none, 0, 0, 0, rfl, by omega, hT2⟩, ?_⟩
  rintro vs w3 ⟨i, gs, gw, gp, cs, cw, cp, rfl, hin, hT3⟩
  refine ⟨_, rfl, dec_t fun hlt => ?_, dec_f fun hge => ⟨k, rfl, _, rfl, ?_, hT3⟩⟩
  · have wr : IntKind.i64.wrap ((i : Int) + 1) = ((i + 1 : Nat) : Int) := by rw [wrap64 _ (by omega) (by omega)]; omega
    rw [wr]
    have hk : refL ⟨k, gs, cs, gw, cw, gp, cp, List.replicate i zeroSec, List.replicate i ⟨none, 0, []⟩, List.replicate i false, false, false, 0⟩ = [blk k #[.slice (ptr gs) i cs, .slice (ptr gw) i cw, .slice (ptr gp) i cp, .bool false, .bool false, .int .i64 0] 54,
        rowP 9 1 gs i cs (List.replicate i (.string zeroSec)), rowP 42 1 gw i cw (List.replicate i (.slice none 0 0)), rowP 4 1 gp i cp (List.replicate i (.bool false))] ++ List.replicate i (RW.row ⟨none, 0, []⟩) := by
      simp only [refL, hdr, List.length_replicate, List.map_replicate]; rfl
    rw [hk] at hT3
    refine ⟨_, rfl, _, _, _, hT3.ld (by repeat (first | exact List.Mem.head _ | refine List.Mem.tail _ ?_)) rfl, push_t (i := Tryz.t9) (z := .string (ByteArray.mk #[])) (by kernel_rfl) (by kernel_rfl) (by kernel_rfl) (by kernel_rfl) (by kernel_rfl) (by kernel_rfl) hT3 (.tail .head) rfl (by omega) fun g1 c1 w4 hT4 => ⟨_, rfl, ?_⟩⟩
    refine St.t hT4 (.tail .head) (by simp) (by rfl) rfl fun w5 hT5 => ⟨_, rfl, _, _, _, hT5.ldA (by repeat (first | exact List.Mem.head _ | refine List.Mem.tail _ ?_)) rfl, ?_⟩
    refine push_t (i := Tryz.t42) (z := .slice none 0 0) (by kernel_rfl) (by kernel_rfl) (by kernel_rfl) (by kernel_rfl) (by kernel_rfl) (by kernel_rfl) hT5 (.tail (.tail .head)) rfl (by omega) fun g2 c2 w6 hT6 => ⟨_, rfl, ?_⟩
    refine St.tA hT6 (.tail (.tail .head)) (by simp) (by rfl) rfl fun w7 hT7 => ⟨_, rfl, _, _, _, hT7.ldA (by repeat (first | exact List.Mem.head _ | refine List.Mem.tail _ ?_)) rfl, ?_⟩
    refine push_t (i := Tryz.t4) (z := .bool false) (by kernel_rfl) (by kernel_rfl) (by kernel_rfl) (by kernel_rfl) (by kernel_rfl) (by kernel_rfl) hT7 (.tail (.tail (.tail .head))) rfl (by omega) fun g3 c3 w8 hT8 => ⟨_, rfl, ?_⟩
    refine St.tA hT8 (.tail (.tail (.tail .head))) (by simp) (by rfl) rfl fun w9 hT9 => ⟨⟨i + 1, g1, g2, g3, c1, c2, c3, rfl, by omega, ?_⟩, ?_⟩
    · have hk2 : refL ⟨k, g1, c1, g2, c2, g3, c3, List.replicate (i + 1) zeroSec, List.replicate (i + 1) ⟨none, 0, []⟩, List.replicate (i + 1) false, false, false, 0⟩ = [blk k #[.slice (ptr g1) (i + 1) c1, .slice (ptr g2) (i + 1) c2, .slice (ptr g3) (i + 1) c3, .bool false, .bool false, .int .i64 0] 54,
          rowP 9 1 g1 (i + 1) c1 (List.replicate i (.string zeroSec) ++ [.string zeroSec]), rowP 42 1 g2 (i + 1) c2 (List.replicate i (.slice none 0 0) ++ [.slice none 0 0]), rowP 4 1 g3 (i + 1) c3 (List.replicate i (.bool false) ++ [.bool false])] ++ (RW.row ⟨none, 0, []⟩ :: List.replicate i (RW.row ⟨none, 0, []⟩)) := by
        simp only [refL, hdr, List.length_replicate, List.map_replicate, ← List.replicate_succ', ← List.replicate_succ]; rfl
      rw [hk2]
      refine (nil_row hT9).swap ?_
      refine List.Perm.trans ?_ (List.perm_middle (l₁ := [blk k #[.slice (ptr g1) (i + 1) c1, .slice (ptr g2) (i + 1) c2, .slice (ptr g3) (i + 1) c3, .bool false, .bool false, .int .i64 0] 54,
          rowP 9 1 g1 (i + 1) c1 (List.replicate i (.string zeroSec) ++ [.string zeroSec]), rowP 42 1 g2 (i + 1) c2 (List.replicate i (.slice none 0 0) ++ [.slice none 0 0]), rowP 4 1 g3 (i + 1) c3 (List.replicate i (.bool false) ++ [.bool false])])).symm
      refine List.Perm.cons _ ?_
      exact perm4b _ _ _ _ _
    · show ((n : Int) - ((i + 1 : Nat) : Int)).toNat < ((n : Int) - (i : Int)).toNat
      omega
  · have hi : i = n := by omega
    subst hi
    refine ⟨by simp [AD.new]; omega, rfl, by simp [AD.new], fun j e he => ?_, by simp [AD.new], fun j b hb => ?_, rfl, rfl⟩
    · rw [List.eq_of_mem_replicate (List.mem_of_getElem? he)]; rfl
    · rw [List.eq_of_mem_replicate (List.mem_of_getElem? hb)]; rfl
end Go.Proofs.YtbecjmfcppginaaGreat
end
section
/-! A drive that holds texts, all of them safe; what is done beside a drive. -/
namespace Go.Proofs.YtbecjmfcppginaaGreat
open Go.Sh Go.RowKit
set_option linter.unusedVariables false
set_option linter.unusedSimpArgs false
set_option maxRecDepth 20000
set_option maxHeartbeats 1000000
theorem read_on {a : AD} {n : Nat} (h : a.On n) {i : Int} (hi : 0 ≤ i ∧ i < (n : Int)) : a.read i = if a.spoilt i.toNat then (noB, 41) else (a.top i.toNat, 0) := AD.read_of (h.may hi)
/-- nothing is pending, nothing is spoilt -/
structure AD.Hold (a : AD) (n : Nat) (f : Nat → ByteArray) : Prop where
  on : a.On n
  pend : ∀ j, a.pend j = []
  sp : ∀ j, a.spoilt j = false
  safe : ∀ j, j < n → a.safe.getD j noB = f j
theorem AD.Hold.few {a : AD} {n : Nat} {f : Nat → ByteArray} (h : a.Hold n f) (N : Nat) : a.Few N := fun j => by rw [h.pend]; exact Nat.zero_le _
theorem AD.Hold.read {a : AD} {n : Nat} {f : Nat → ByteArray} (h : a.Hold n f) {i : Nat} (hi : i < n) : a.read (i : Int) = (f i, 0) := by
  rw [read_on h.on (by omega), Int.toNat_natCast, if_neg (by rw [h.sp]; decide), AD.top_none (h.pend i), h.safe i hi]
theorem hold_new (n : Nat) : (AD.new n).Hold n fun _ => zeroSec := ⟨AD.On.new n, fun _ => rfl, fun _ => rfl, fun j hj => by
  show (List.replicate n zeroSec).getD j noB = zeroSec
  simp [List.getD, hj]⟩
theorem AD.Hold.change {a : AD} {n : Nat} {f : Nat → ByteArray} (h : a.Hold n f) {i : Nat} (hi : i < n) {s : ByteArray} (hs : s.size = 64) : (a.change (i : Int) s).Hold n fun j => if j = i then s else f j := by
  have hp := h.on.put (i := (i : Int)) (by omega) hs
  refine ⟨h.on.change _ _, fun j => ?_, fun j => ?_, fun j hj => ?_⟩ <;> rw [AD.change_of hp]
  · show (if j = (i : Int).toNat then [] else a.pend j) = []
    rw [h.pend]; split <;> rfl
  · exact h.sp j
  · show (a.safe.set (i : Int).toNat s).getD j noB = _
    have hl := h.on.len
    rw [Int.toNat_natCast, List.getD_eq_getElem?_getD, List.getElem?_set]
    by_cases e : i = j
    · subst e; rw [if_pos rfl, if_pos (by omega), if_pos rfl]; rfl
    · rw [if_neg e, if_neg (fun e' => e e'.symm), ← h.safe j hj, List.getD_eq_getElem?_getD]
theorem AD.Hold.few_write {a : AD} {n : Nat} {f : Nat → ByteArray} (h : a.Hold n f) (i : Int) (s : ByteArray) : (a.write i s).Few 1000000 := ((h.few 0).write i s).mono (by decide)
theorem AD.Hold.save {a : AD} {n : Nat} {f : Nat → ByteArray} (h : a.Hold n f) {i : Nat} (hi : i < n) {s : ByteArray} (hs : s.size = 64) : ((a.write (i : Int) s).flush).Hold n fun j => if j = i then s else f j := by
  have hp := h.on.put (i := (i : Int)) (by omega) hs
  have how := h.on.write (i : Int) s
  refine ⟨how.flush, fun j => ?_, fun j => ?_, fun j hj => ?_⟩ <;> rw [AD.flush_of how.flush1]
  · rfl
  · show (a.write (i : Int) s).spoilt j = false
    rw [AD.write_of hp]
    show (if j = (i : Int).toNat then false else a.spoilt j) = false
    rw [h.sp]; split <;> rfl
  · show (keptFrom (fun _ m => m) (a.write (i : Int) s).pend 0 0 (a.write (i : Int) s).safe).getD j noB = _
    obtain ⟨k', hk⟩ := keptFrom_get (fun _ m => m) (a.write (i : Int) s).pend noB (a.write (i : Int) s).safe 0 0 j (by rw [how.len]; exact hj)
    rw [hk, Nat.zero_add, AD.write_of hp]
    simp only [Int.toNat_natCast]
    by_cases e : j = i
    · subst e
      simp [h.pend]
    · rw [if_neg e, if_pos (h.pend j), if_neg e]
      exact h.safe j hj
theorem AD.Hold.crash {a : AD} {n : Nat} {f : Nat → ByteArray} (h : a.Hold n f) {i : Nat} (hi : i < n) {s : ByteArray} (hs : s.size = 64) (keep : List UInt8) : ∃ q : Bool, ((a.write (i : Int) s).crash keep).Hold n fun j => if j = i ∧ q = true then s else f j := by
  have hp := h.on.put (i := (i : Int)) (by omega) hs
  have how := h.on.write (i : Int) s
  have hsafe : (a.write (i : Int) s).safe = a.safe := by rw [AD.write_of hp]
  have hpend : ∀ j, (a.write (i : Int) s).pend j = if j = i then [s] else [] := fun j => by
    rw [AD.write_of hp]
    show (if j = (i : Int).toNat then a.pend j ++ [s] else a.pend j) = _
    rw [h.pend, Int.toNat_natCast]; rfl
  have hsp : ∀ j, (a.write (i : Int) s).spoilt j = false := fun j => by
    rw [AD.write_of hp]
    show (if j = (i : Int).toNat then false else a.spoilt j) = false
    rw [h.sp]; split <;> rfl
  obtain ⟨k0, hk0⟩ := keptFrom_get (keepG keep) (a.write (i : Int) s).pend noB (a.write (i : Int) s).safe 0 0 i (by rw [how.len]; exact hi)
  refine ⟨decide (0 < keepG keep k0 1), ⟨how.dead, rfl, ?_⟩, fun j => rfl, hsp, fun j hj => ?_⟩
  · show (keptFrom (keepG keep) (a.write (i : Int) s).pend 0 0 (a.write (i : Int) s).safe).length = n
    rw [keptFrom_len, how.len]
  · show (keptFrom (keepG keep) (a.write (i : Int) s).pend 0 0 (a.write (i : Int) s).safe).getD j noB = _
    by_cases e : j = i
    · subst e
      rw [hk0, Nat.zero_add, hpend, if_pos rfl, if_neg (by simp)]
      have hle := keepG_le keep k0 1
      by_cases hg : 0 < keepG keep k0 1
      · have h1 : keepG keep k0 1 = 1 := by omega
        simp [h1]
      · simp only [List.length_singleton, if_neg hg]
        rw [if_neg (by simp [hg]), hsafe, h.safe j hj]
    · obtain ⟨k', hk⟩ := keptFrom_get (keepG keep) (a.write (i : Int) s).pend noB (a.write (i : Int) s).safe 0 0 j (by rw [how.len]; exact hj)
      rw [hk, Nat.zero_add, hpend, if_neg e, if_pos rfl, hsafe, h.safe j hj, if_neg (fun h => e h.1)]
theorem Dr.alloc {p : Nat} {a : AD} {F : List Nat} {w0 w : World} {X : List A} (h : Dr p a F w0 w X) {c : Array Value} {t : TypeId} {K : Nat → World → Prop} (hK : ∀ b w', Dr p a F w0 w' (blk b c t :: X) → K b w') : Alloc c t w K := by
  obtain ⟨D, h1, h2, hT⟩ := h
  refine Alloc.t hT fun b w' hT' => hK b w' ⟨D, h1, h2, ?_⟩
  first
    | exact hT'
    | exact hT'.swap List.perm_middle.symm
theorem drew_dr {p : Nat} {a : AD} {F : List Nat} {w0 w : World} {X : List A} (h : Dr p a F w0 w X) : Dr p a F w0 w.drew X := by
  obtain ⟨D, h1, h2, hT⟩ := h
  exact ⟨D, h1, h2, hT.drew⟩
section
variable {p : Nat} {a : AD} {F : List Nat} {w0 w : World} {X : List A}
theorem Dr.perm {X' : List A} (h : Dr p a F w0 w X) (hp : X.Perm X') : Dr p a F w0 w X' := by
  obtain ⟨D, h1, h2, hT⟩ := h
  exact ⟨D, h1, h2, hT.swap (hp.append_right _)⟩
theorem Dr.dropX {y : A} (h : Dr p a F w0 w (y :: X)) : Dr p a F w0 w X := by
  obtain ⟨D, h1, h2, hT⟩ := h
  exact ⟨D, h1, h2, T.drop hT⟩
theorem Dr.only {y : A} : ∀ {X : List A}, Dr p a F w0 w (y :: X) → Dr p a F w0 w [y]
  | [], h => h
  | _ :: X, h => Dr.only (X := X) (h.perm (.swap _ _ _)).dropX
theorem Dr.st1 {k i : Nat} {c c' : Array Value} {t : TypeId} {v : Value} {K : World → Prop} (h : Dr p a F w0 w (blk k c t :: X)) (hi : i < c.size) (hc : c.setIfInBounds i v = c') (hv : scalar v = true) (hK : ∀ w', Dr p a F w0 w' (blk k c' t :: X) → K w') : St ⟨k, i, none⟩ v w K := by
  obtain ⟨D, h1, h2, hT⟩ := h
  exact St.t (Γ := blk k c t :: (X ++ drvL D)) hT .head hi hc hv fun w' hT' => hK w' ⟨D, h1, h2, hT'⟩
theorem Dr.into {y : A} {K : Prop} (h : Dr p a F w0 w (y :: X)) (hK : ∀ Γ, T F w0 w (y :: Γ) → (∀ w' y', T F w0 w' (y' :: Γ) → Dr p a F w0 w' (y' :: X)) → K) : K := by
  obtain ⟨D, h1, h2, hT⟩ := h
  exact hK (X ++ drvL D) hT fun w' y' hT' => ⟨D, h1, h2, hT'⟩
theorem Rf.under (h : Rf p a F w0 w X) : T F w0 w X := by
  obtain ⟨R, h1, h2, hT⟩ := h
  exact T.dropAll hT
theorem Rf.alloc (h : Rf p a F w0 w X) {c : Array Value} {t : TypeId} {K : Nat → World → Prop} (hK : ∀ b w', Rf p a F w0 w' (blk b c t :: X) → K b w') : Alloc c t w K := by
  obtain ⟨R, h1, h2, hT⟩ := h
  exact Alloc.t hT fun b w' hT' => hK b w' ⟨R, h1, h2, hT'.swap List.perm_middle.symm⟩
theorem Rf.st1 {k i : Nat} {c c' : Array Value} {t : TypeId} {v : Value} {K : World → Prop} (h : Rf p a F w0 w (blk k c t :: X)) (hi : i < c.size) (hc : c.setIfInBounds i v = c') (hv : scalar v = true) (hK : ∀ w', Rf p a F w0 w' (blk k c' t :: X) → K w') : St ⟨k, i, none⟩ v w K := by
  obtain ⟨R, h1, h2, hT⟩ := h
  exact St.t (hT.swap List.perm_middle) .head hi hc hv fun w' hT' => hK w' ⟨R, h1, h2, hT'.swap List.perm_middle.symm⟩
theorem Rf.perm {X' : List A} (h : Rf p a F w0 w X) (hp : X.Perm X') : Rf p a F w0 w X' := by
  obtain ⟨R, h1, h2, hT⟩ := h
  exact ⟨R, h1, h2, hT.swap (hp.append_left _)⟩
theorem Rf.dropX {y : A} (h : Rf p a F w0 w (y :: X)) : Rf p a F w0 w X := by
  obtain ⟨R, h1, h2, hT⟩ := h
  exact ⟨R, h1, h2, T.drop (hT.swap List.perm_middle)⟩
theorem Rf.drew (h : Rf p a F w0 w X) : Rf p a F w0 w.drew X := by
  obtain ⟨R, h1, h2, hT⟩ := h
  exact ⟨R, h1, h2, hT.drew⟩
theorem Rf.dead (h : Rf p a F w0 w X) : w.cell? (Addr.add ⟨p, 0, none⟩ 3) = some (.bool a.dead) := by
  obtain ⟨R, rfl, hA, hT⟩ := h
  rw [← hA.dead]
  exact hT.ldA (by repeat (first | exact List.Mem.head _ | refine List.Mem.tail _ ?_)) rfl
end
end Go.Proofs.YtbecjmfcppginaaGreat
end
section
/-! ring: steps on a drive. -/
namespace Go.Proofs.YtbecjmfcppginaaGreat
open Go.Sh Go.RowKit
set_option linter.unusedVariables false
set_option linter.unusedSimpArgs false
set_option maxRecDepth 20000
set_option maxHeartbeats 1000000
/-- a step: a sector is written, or the drive is flushed -/
abbrev Op : Type := Option (Int × ByteArray)
def runS : AD → List Op → AD × Int
  | a, [] => (a, 0)
  | a, some x :: l => if a.put x.1 x.2 ≠ 0 then (a.write x.1 x.2, a.put x.1 x.2) else runS (a.write x.1 x.2) l
  | a, none :: l => if a.flush1 ≠ 0 then (a.flush, a.flush1) else runS a.flush l
inductive Stp where
  | wr (i : Int) (s : ByteArray) (k3 k4 k5 : Nat)
  | fl
def Stp.op : Stp → Op
  | .wr i s _ _ _ => some (i, s)
  | .fl => none
def Stp.val (q : Nat) : Stp → Value
  | .wr _ _ k3 k4 k5 => .func (.func 63) #[] #[.pointer (some ⟨k3, 0, none⟩), .pointer (some ⟨k4, 0, none⟩), .pointer (some ⟨k5, 0, none⟩)]
  | .fl => .func (.func 39) #[.pointer (some ⟨q, 0, none⟩)] #[]
def Stp.own (q : Nat) : Stp → List A
  | .wr i s k3 k4 k5 => [blk k3 #[.pointer (some ⟨q, 0, none⟩)] 26, blk k4 #[.int .i64 i] 3, blk k5 #[.string s] 9]
  | .fl => []
section
variable {q : Nat} {a : AD} {F : List Nat} {w0 w : World} {X : List A}
theorem steps_spec {l : List Stp} {N : Nat} {g : Option Nat} {cap : Nat} (h : Dr q a F w0 w X) (hm : rowP 79 1 g l.length cap (l.map (Stp.val q)) ∈ X) (ho : ∀ s ∈ l, ∀ x ∈ s.own q, x ∈ X) (hF : a.Few N) (hN : N + l.length ≤ 1000000) :
    Calls Tryz.prog 37 #[.slice (ptr g) l.length cap] w fun e w' => e = .returned (.int .i64 (runS a (l.map Stp.op)).2) ∧ Dr q (runS a (l.map Stp.op)).1 F w0 w' X := by
  refine (ring_steps_calls (R := fun v w' => v = .int .i64 (runS a (l.map Stp.op)).2 ∧ Dr q (runS a (l.map Stp.op)).1 F w0 w' X) ?_).mono fun e w' ⟨v, he, hv, h⟩ => ⟨by rw [he, hv], h⟩
  unfold ring_steps
  refine ⟨fun vs w' => ∃ (i : Nat) (a' : AD), vs = [.int .i64 (i : Int)] ∧ i ≤ l.length ∧ Dr q a' F w0 w' X ∧ a'.Few (N + i) ∧ runS a (l.map Stp.op) = runS a' ((l.drop i).map Stp.op), fun vs _ => match vs with | [.int _ i] => (l.length - i).toNat | _ => 0, ⟨0, a, rfl, by omega, h, hF, rfl⟩, ?_⟩
  rintro vs w1 ⟨i, a', rfl, hi, h1, hF1, hr⟩
  refine ⟨_, rfl, dec_t fun hlt => ?_, dec_f fun hge => ?_⟩
  · have hlt : i < l.length := by omega
    obtain ⟨b, rfl, hc⟩ := T.row1 (i := i) (v := (l[i]).val q) h1.under hm (by rw [List.getElem?_map, List.getElem?_eq_getElem hlt]; rfl)
    have hmem : l[i] ∈ l := List.getElem_mem hlt
    rw [List.drop_eq_getElem_cons hlt, List.map_cons] at hr
    refine ⟨_, rfl, by omega, by omega, _, by rw [Int.toNat_natCast]; exact hc, ?_⟩
    have ho1 := ho _ hmem
    have hnx : IntKind.i64.wrap ((i : Int) + 1) = ((i + 1 : Nat) : Int) := by rw [wrap64 _ (by omega) (by omega)]; omega
    have hms : ((l.length : Int) - IntKind.i64.wrap ((i : Int) + 1)).toNat < ((l.length : Int) - (i : Int)).toNat := by rw [wrap64 _ (by omega) (by omega)]; omega
    generalize l[i] = x at hr ho1
    cases x with
    | wr j s k3 k4 k5 =>
      refine CallF.func (by kernel_rfl) ((ring_written_1_calls (k0 := ⟨k3, 0, none⟩) (k1 := ⟨k4, 0, none⟩) (k2 := ⟨k5, 0, none⟩) (R := fun v w2 => v = .int .i64 (a'.put j s) ∧ Dr q (a'.write j s) F w0 w2 X) ?_).mono fun e w2 ⟨v, he, hv, h2⟩ => ⟨a'.put j s, he.trans (by rw [hv]), bne_t fun hne => ?_, bne_f fun heq => ?_⟩)
      · unfold ring_written_1
        refine ⟨_, h1.under.ld (b := k3) (ho1 _ List.mem_cons_self) rfl, _, h1.under.ld (b := k4) (ho1 _ (List.mem_cons_of_mem _ List.mem_cons_self)) rfl, _, h1.under.ld (b := k5) (ho1 _ (List.mem_cons_of_mem _ (List.mem_cons_of_mem _ List.mem_cons_self))) rfl, ?_⟩
        exact write_u h1 (hF1.mono (by omega)) rfl fun w' h' => ⟨_, rfl, rfl, h'⟩
      · have hr : runS a (l.map Stp.op) = (a'.write j s, a'.put j s) := hr.trans (if_pos hne)
        rw [hr]; exact ⟨rfl, h2⟩
      · have hr : runS a (l.map Stp.op) = runS (a'.write j s) ((l.drop (i + 1)).map Stp.op) := hr.trans (if_neg (fun hn => hn heq))
        exact ⟨⟨i + 1, a'.write j s, by rw [hnx], by omega, h2, (hF1.write j s).mono (by omega), hr⟩, hms⟩
    | fl =>
      refine CallF.func (by kernel_rfl) (flush_u h1 (hF1.mono (by omega)) rfl fun w2 h2 => ⟨_, rfl, bne_t fun hne => ?_, bne_f fun heq => ?_⟩)
      · have hr : runS a (l.map Stp.op) = (a'.flush, a'.flush1) := hr.trans (if_pos hne)
        rw [hr]; exact ⟨rfl, h2⟩
      · have hr : runS a (l.map Stp.op) = runS a'.flush ((l.drop (i + 1)).map Stp.op) := hr.trans (if_neg (fun hn => hn heq))
        exact ⟨⟨i + 1, a'.flush, by rw [hnx], by omega, h2, hF1.flush.mono (by omega), hr⟩, hms⟩
  · have hie : i = l.length := by omega
    subst hie
    rw [List.drop_length] at hr
    rw [hr]; exact ⟨rfl, h1⟩
theorem written_spec (h : Dr q a F w0 w X) (i : Int) (s : ByteArray) : Calls Tryz.prog 35 #[.pointer (some ⟨q, 0, none⟩), .int .i64 i, .string s] w fun e w' => ∃ k3 k4 k5, e = .returned ((Stp.wr i s k3 k4 k5).val q) ∧ Dr q a F w0 w' ((Stp.wr i s k3 k4 k5).own q ++ X) := by
  refine (ring_written_calls (R := fun v w' => ∃ k3 k4 k5, v = (Stp.wr i s k3 k4 k5).val q ∧ Dr q a F w0 w' ((Stp.wr i s k3 k4 k5).own q ++ X)) ?_).mono fun e w' ⟨v, he, k3, k4, k5, hv, h⟩ => ⟨k3, k4, k5, by rw [he, hv], h⟩
  unfold ring_written
  refine Dr.alloc h fun k3 w1 h1 => Dr.alloc h1 fun k4 w2 h2 => Dr.alloc h2 fun k5 w3 h3 => ⟨k3, k4, k5, rfl, Dr.perm h3 ?_⟩
  exact (List.Perm.swap _ _ _).trans ((List.Perm.cons _ (List.Perm.swap _ _ _)).trans ((List.Perm.swap _ _ _)))
end
/-- how many slots a drive of some sectors has -/
def slotsN (n : Int) : Int := (max (n - 4) 0) / 41
theorem slots_spec (n : Int) (h0 : -9223372036854775804 ≤ n) (h1 : n ≤ 9223372036854775807) (w : World) : Ret Tryz.prog 10 #[.int .i64 n] w (.int .i64 (slotsN n)) := by
  refine ret_of (ring_Slots_calls ?_)
  unfold ring_Slots
  rw [wrap64 _ (by omega) (by omega)]
  refine ⟨_, w, max_run _ _ _ _ _ _, ?_, Ext.refl w⟩
  unfold slotsN
  have e : (if n - 4 < 0 then (0 : Int) else n - 4) = max (n - 4) 0 := by split <;> omega
  rw [e, Int.tdiv_eq_ediv_of_nonneg (by omega), wrap64 _ (by omega) (by omega)]
def magM : List UInt8 := [82, 86, 84, 77]
def markB (n : Nat) : List UInt8 := sealB (magM ++ leB n 8) 64
theorem markB_len (n : Nat) : (markB n).length = 64 := sealB_len (by rw [List.length_append, leB_len]; decide)
theorem rwid8 : Wid [8] := ⟨by decide, by decide⟩
theorem mark_spec {n : Nat} (hn : n < 2 ^ 64) (w : World) : Ret Tryz.prog 38 #[.int .u64 (n : Int)] w (.string (strB (markB n))) := by
  refine ret_of (ring_mark_calls ?_)
  unfold ring_mark
  refine Alloc.t (T.nil w) fun k9 w1 h1 => ?_
  have h1 : T [] w w1 [rowP 57 1 (some k9) 1 1 (u64s [n])] := blk_row h1 rfl rfl (by decide)
  refine Alloc.t h1 fun k10 w2 h2 => ?_
  have h2 : T [] w w2 (rowP 3 1 (some k10) 1 1 (ints [8]) :: [rowP 57 1 (some k9) 1 1 (u64s [n])]) := blk_row h2 rfl rfl (by decide)
  have hf : ∀ (i m x : Nat), [n][i]? = some m → [8][i]? = some x → m < 256 ^ x := fun i m x hm hx => by
    match i, hm, hx with
    | 0, hm, hx =>
      cases hm; cases hx
      have e : (256 : Nat) ^ 8 = 2 ^ 64 := by decide
      omega
    | i + 1, hm, _ => simp at hm
  refine (encode_spec (ns := [n]) (ws := [8]) rwid8 rfl hf h2 (g1 := some k9) (g2 := some k10) (n1 := 1) (n2 := 1) (c1 := 1) (c2 := 1) rfl rfl (List.mem_cons_of_mem _ List.mem_cons_self) List.mem_cons_self).mono fun e w3 ⟨he3, h3⟩ => ⟨_, _, he3, ?_⟩
  rw [show encP [n] [8] = leB n 8 by simp [encP]]
  have eM : (ByteArray.mk #[82, 86, 84, 77]) = strB magM := rfl
  have l8 := leB_len n 8
  have hl : (magM ++ leB n 8).length = 12 := by rw [List.length_append, l8]; rfl
  rw [eM, strB_append]
  refine ⟨by rw [strB_size, strB_size, l8]; decide, ?_⟩
  exact (seal_spec (strB (magM ++ leB n 8)) 64 (by rw [strB_size, hl]; omega) (by omega) w3).mono fun e w5 ⟨he5, hx5⟩ => ⟨_, _, he5, rfl, h3.chg.ext.trans hx5⟩
end Go.Proofs.YtbecjmfcppginaaGreat
end
section
/-! What is owned, of a kind: lists of parts that something says. -/
namespace Go.Sh
open Go.RowKit
set_option linter.unusedVariables false
/-- a kind of parts -/
abbrev Kd := List A → Prop
def Ow (h : Kd) (F : List Nat) (w0 w : World) (X : List A) : Prop := ∃ Y, h Y ∧ T F w0 w (X ++ Y)
def star (h g : Kd) : Kd := fun Y => ∃ Y1 Y2, h Y1 ∧ g Y2 ∧ Y = Y1 ++ Y2
def noK : Kd := fun Y => Y = []
section
variable {h g : Kd} {F : List Nat} {w0 w : World} {X : List A}
theorem Ow.mk' {Y : List A} (hY : h Y) (hT : T F w0 w (X ++ Y)) : Ow h F w0 w X := ⟨Y, hY, hT⟩
theorem Ow.quiet {w' : World} (H : Ow h F w0 w X) (he : Ext w w') : Ow h F w0 w' X := by
  obtain ⟨Y, hY, hT⟩ := H
  exact ⟨Y, hY, hT.quiet he⟩
theorem Ow.drew (H : Ow h F w0 w X) : Ow h F w0 w.drew X := by
  obtain ⟨Y, hY, hT⟩ := H
  exact ⟨Y, hY, hT.drew⟩
theorem Ow.perm {X' : List A} (H : Ow h F w0 w X) (hp : X.Perm X') : Ow h F w0 w X' := by
  obtain ⟨Y, hY, hT⟩ := H
  exact ⟨Y, hY, hT.swap (hp.append_right _)⟩
theorem Ow.dropX {x : A} (H : Ow h F w0 w (x :: X)) : Ow h F w0 w X := by
  obtain ⟨Y, hY, hT⟩ := H
  exact ⟨Y, hY, T.drop hT⟩
theorem T.leave {Γ Δ : List A} (H : T F w0 w (Γ ++ Δ)) : T F w0 w Γ := by
  have H2 : T F w0 w (Δ ++ Γ) := H.swap List.perm_append_comm
  clear H
  induction Δ with
  | nil => exact H2
  | cons x Δ ih => exact ih (T.drop H2)
theorem Ow.under (H : Ow h F w0 w X) : T F w0 w X := by
  obtain ⟨Y, hY, hT⟩ := H
  exact T.leave hT
theorem Ow.leave {Z : List A} (H : Ow h F w0 w (X ++ Z)) : Ow h F w0 w X := by
  obtain ⟨Y, hY, hT⟩ := H
  have : T F w0 w ((X ++ Y) ++ Z) := hT.swap (by rw [List.append_assoc, List.append_assoc]; exact List.Perm.append_left _ List.perm_append_comm)
  exact ⟨Y, hY, T.leave this⟩
theorem Ow.ext (H : Ow h [] w0 w X) : Ext w0 w := H.under.chg.ext
theorem Ow.ld {b i : Nat} {c : Array Value} {t : TypeId} {v : Value} (H : Ow h F w0 w X) (hm : blk b c t ∈ X) (hv : c[i]? = some v) : w.cell? ⟨b, i, none⟩ = some v := H.under.ld hm hv
theorem Ow.of_T (H : T F w0 w X) : Ow noK F w0 w X := ⟨[], rfl, by rw [List.append_nil]; exact H⟩
theorem Ow.call {w' : World} {Γ Γ' : List A} (H : Ow h F w0 w (Γ ++ X)) (hc : T (feet Γ) w w' Γ') : Ow h F w0 w' (Γ' ++ X) := by
  obtain ⟨Y, hY, hT⟩ := H
  rw [List.append_assoc] at hT
  exact ⟨Y, hY, by rw [List.append_assoc]; exact T.call hT hc⟩
/-- a call that makes new parts alone -/
theorem Ow.new {w' : World} {Γ : List A} (H : Ow h F w0 w X) (hc : T [] w w' Γ) : Ow h F w0 w' (Γ ++ X) := Ow.call (Γ := []) H hc
theorem Ow.alloc {c : Array Value} {t : TypeId} {K : Nat → World → Prop} (H : Ow h F w0 w X) (hK : ∀ b w', Ow h F w0 w' (blk b c t :: X) → K b w') : Alloc c t w K := by
  obtain ⟨Y, hY, hT⟩ := H
  exact Alloc.t hT fun b w' h' => hK b w' ⟨Y, hY, h'⟩
theorem Turn.app {x y : A} {Γ Γ' : List A} (hu : Turn x y Γ Γ') (Y : List A) : Turn x y (Γ ++ Y) (Γ' ++ Y) := by
  induction hu with
  | head => exact .head
  | tail _ ih => exact .tail ih
theorem Pick.app {x : A} {Γ Γ' : List A} (hu : Pick x Γ Γ') (Y : List A) : Pick x (Γ ++ Y) (Γ' ++ Y) := by
  induction hu with
  | head => exact .head
  | tail _ ih => exact .tail ih
theorem Ow.st {X' : List A} {k i : Nat} {c c' : Array Value} {t : TypeId} {v : Value} {K : World → Prop} (H : Ow h F w0 w X) (hu : Turn (blk k c t) (blk k c' t) X X') (hi : i < c.size) (hc : c.setIfInBounds i v = c') (hv : scalar v = true) (hK : ∀ w', Ow h F w0 w' X' → K w') : St ⟨k, i, none⟩ v w K := by
  obtain ⟨Y, hY, hT⟩ := H
  exact St.t hT (hu.app Y) hi hc hv fun w' hT' => hK w' ⟨Y, hY, hT'⟩
/-- what is done to the parts at hand -/
theorem Ow.into {K : Prop} (H : Ow h F w0 w X) (hK : ∀ Y, T F w0 w (X ++ Y) → (∀ w' X', T F w0 w' (X' ++ Y) → Ow h F w0 w' X') → K) : K := by
  obtain ⟨Y, hY, hT⟩ := H
  exact hK Y hT fun w' X' hT' => ⟨Y, hY, hT'⟩
theorem Ow.mono (hi : ∀ Y, h Y → g Y) (H : Ow h F w0 w X) : Ow g F w0 w X := by
  obtain ⟨Y, hY, hT⟩ := H
  exact ⟨Y, hi Y hY, hT⟩
/-- the second kind is lent -/
theorem Ow.lend (H : Ow (star h g) F w0 w X) : ∃ Z, g Z ∧ Ow h F w0 w (X ++ Z) ∧ ∀ {h' : Kd} {F' : List Nat} {w0' w' : World} {X' : List A}, Ow h' F' w0' w' (X' ++ Z) → Ow (star h' g) F' w0' w' X' := by
  obtain ⟨Y, ⟨Y1, Y2, h1, h2, rfl⟩, hT⟩ := H
  refine ⟨Y2, h2, ⟨Y1, h1, hT.swap ?_⟩, fun {h' F' w0' w' X'} H' => ?_⟩
  · rw [List.append_assoc]; exact List.Perm.append_left _ List.perm_append_comm
  · obtain ⟨Y1', h1', hT'⟩ := H'
    exact ⟨_, ⟨Y1', Y2, h1', h2, rfl⟩, hT'.swap (by rw [List.append_assoc]; exact List.Perm.append_left _ List.perm_append_comm)⟩
theorem Ow.flip (H : Ow (star h g) F w0 w X) : Ow (star g h) F w0 w X := by
  obtain ⟨Y, ⟨Y1, Y2, h1, h2, rfl⟩, hT⟩ := H
  exact ⟨_, ⟨Y2, Y1, h2, h1, rfl⟩, hT.swap (List.Perm.append_left _ List.perm_append_comm)⟩
theorem Ow.join {Z : List A} (hg : g Z) (H : Ow h F w0 w (X ++ Z)) : Ow (star h g) F w0 w X := by
  obtain ⟨Y1, h1, hT⟩ := H
  exact ⟨_, ⟨Y1, Z, h1, hg, rfl⟩, hT.swap (by rw [List.append_assoc]; exact List.Perm.append_left _ List.perm_append_comm)⟩
theorem Ow.fst (H : Ow (star h g) F w0 w X) : Ow h F w0 w X := by
  obtain ⟨Z, _, H1, _⟩ := H.lend
  exact H1.leave
end
/-- one thing of a kind for each of a list -/
def allK {α : Type} (f : α → Kd) : List α → Kd
  | [] => noK
  | x :: l => star (f x) (allK f l)
section
variable {α : Type} {f : α → Kd} {F : List Nat} {w0 w : World} {X : List A}
theorem allK_snoc {l : List α} {x : α} {Y Z : List A} (hY : allK f l Y) (hZ : f x Z) : ∃ Y', allK f (l ++ [x]) Y' ∧ (Y ++ Z).Perm Y' := by
  induction l generalizing Y with
  | nil =>
    obtain rfl : Y = [] := hY
    exact ⟨Z ++ [], ⟨Z, [], hZ, rfl, rfl⟩, by simp⟩
  | cons y l ih =>
    obtain ⟨Y1, Y2, h1, h2, rfl⟩ := hY
    obtain ⟨Y', h3, h4⟩ := ih h2
    exact ⟨Y1 ++ Y', ⟨Y1, Y', h1, h3, rfl⟩, by rw [List.append_assoc]; exact List.Perm.append_left _ h4⟩
theorem allK_at {l : List α} {k : Nat} {x : α} (hk : l[k]? = some x) {Y : List A} (hY : allK f l Y) : ∃ Y1 Z, f x Y1 ∧ Y.Perm (Y1 ++ Z) ∧ ∀ x' Y1', f x' Y1' → ∃ Y', allK f (l.set k x') Y' ∧ (Y1' ++ Z).Perm Y' := by
  induction l generalizing k Y with
  | nil => simp at hk
  | cons y l ih =>
    obtain ⟨Y1, Y2, h1, h2, rfl⟩ := hY
    cases k with
    | zero =>
      obtain rfl : y = x := by simpa using hk
      exact ⟨Y1, Y2, h1, .refl _, fun x' Y1' hx' => ⟨Y1' ++ Y2, ⟨Y1', Y2, hx', h2, rfl⟩, .refl _⟩⟩
    | succ k =>
      obtain ⟨Z1, Z2, h3, h4, h5⟩ := ih (by simpa using hk) h2
      have sw : ∀ a b c : List A, (a ++ (b ++ c)).Perm (b ++ (a ++ c)) := fun a b c => by
        rw [← List.append_assoc, ← List.append_assoc]; exact List.perm_append_comm.append_right _
      refine ⟨Z1, Y1 ++ Z2, h3, (List.Perm.append_left _ h4).trans (sw _ _ _), fun x' Y1' hx' => ?_⟩
      obtain ⟨Y', h6, h7⟩ := h5 x' Y1' hx'
      exact ⟨Y1 ++ Y', ⟨Y1, Y', h1, h6, rfl⟩, (sw _ _ _).trans (List.Perm.append_left _ h7)⟩
/-- one of them is lent -/
theorem Ow.at {l : List α} {k : Nat} {x : α} (hk : l[k]? = some x) (H : Ow (allK f l) F w0 w X) : ∃ Z, Ow (f x) F w0 w (X ++ Z) ∧ ∀ {x' : α} {F' : List Nat} {w0' w' : World} {X' : List A}, Ow (f x') F' w0' w' (X' ++ Z) → Ow (allK f (l.set k x')) F' w0' w' X' := by
  obtain ⟨Y, hY, hT⟩ := H
  obtain ⟨Y1, Z, h1, hp, hb⟩ := allK_at hk hY
  have sw : ∀ a b c : List A, ((a ++ b) ++ c).Perm (a ++ (c ++ b)) := fun a b c => by rw [List.append_assoc]; exact List.Perm.append_left _ List.perm_append_comm
  refine ⟨Z, ⟨Y1, h1, hT.swap ((List.Perm.append_left _ hp).trans ((sw _ _ _).symm))⟩, fun {x' F' w0' w' X'} H' => ?_⟩
  obtain ⟨Y1', h1', hT'⟩ := H'
  obtain ⟨Y', h2, h3⟩ := hb x' Y1' h1'
  exact ⟨Y', h2, hT'.swap ((sw _ _ _).trans (List.Perm.append_left _ h3))⟩
theorem Ow.snoc {l : List α} {x : α} (H : Ow (star (f x) (allK f l)) F w0 w X) : Ow (allK f (l ++ [x])) F w0 w X := by
  obtain ⟨Y, ⟨Y1, Y2, h1, h2, rfl⟩, hT⟩ := H
  obtain ⟨Y', h3, h4⟩ := allK_snoc h2 h1
  exact ⟨Y', h3, hT.swap (List.Perm.append_left _ (List.perm_append_comm.trans h4))⟩
theorem Ow.nil_all (H : T F w0 w X) : Ow (allK f []) F w0 w X := Ow.of_T H
end
section
variable {h h' : Kd} {F : List Nat} {w0 w W : World} {X X' : List A}
theorem Ow.putTop {b : Nat} {o o' : Obj} (H : Ow h F w0 w (ob b o :: X)) : Ow h F w0 (w.putObj b o') (ob b o' :: X) := by
  obtain ⟨Y, hY, hT⟩ := H
  exact ⟨Y, hY, T.putTop hT⟩
theorem Ow.got {b : Nat} {o : Obj} (H : Ow h F w0 w X) (hm : ob b o ∈ X) : w.heap[b]? = some o := H.under.got hm
theorem Ow.shut {d : Nat} {Q : World → Prop} (H : Ow h F w0 w (ob d (.deferred (some [])) :: X)) (hq : ∀ w', Ow h F w0 w' X → Q w') : w.heap[d]? = some (.deferred (some [])) ∧ Q (w.putObj d (.deferred none)) :=
  ⟨H.got List.mem_cons_self, hq _ H.putTop.dropX⟩
theorem RoundO.t {obf : LoopState → Option Code → Obj} {l : Nat} {Φ : Value → World → Prop} {body : (World → Prop) → (Nat → World → Prop) → (World → Prop) → World → Prop}
    (H : Ow h F w0 W (ob l (obf .ready none) :: X)) (hΦ : ∀ w', Ow h' F w0 w' (ob l (obf .ready none) :: X') → Φ (.bool true) w')
    (hb : ∀ K B R w1, Ow h F w0 w1 (ob l (obf .busy none) :: X) → (∀ w2, Ow h' F w0 w2 (ob l (obf .busy none) :: X') → K w2) → body K B R w1) : RoundP obf l Φ body W :=
  ⟨H.got List.mem_cons_self, hb _ _ _ _ H.putTop fun w2 h2 => ⟨h2.got List.mem_cons_self, hΦ _ h2.putTop⟩⟩
theorem RoundRO.t {obf : LoopState → Option Code → Obj} {l : Nat} {Φ : Value → World → Prop} {body : (World → Prop) → (Nat → World → Prop) → (World → Prop) → World → Prop}
    (H : Ow h F w0 W (ob l (obf .ready none) :: X)) (hΦ : ∀ w', Ow h' F w0 w' (ob l (obf .done (some .ret)) :: X') → Φ (.bool false) w')
    (hb : ∀ K B R w1, Ow h F w0 w1 (ob l (obf .busy none) :: X) → (∀ w2, Ow h' F w0 w2 (ob l (obf .busy none) :: X') → R w2) → body K B R w1) : RoundP obf l Φ body W :=
  ⟨H.got List.mem_cons_self, hb _ _ _ _ H.putTop fun w2 h2 => ⟨h2.got List.mem_cons_self, hΦ _ h2.putTop⟩⟩
end
/-- a range over a function whose rounds all go on: those of 'ok' are done -/
theorem RangeO.t {P : Program} {round : (LoopState → Option Code → Obj) → Nat → List Value → World → (Value → World → Prop) → Prop} {os : List (Nat × (Nat → World → Prop))} {K R : Nat → World → Prop} {f : FuncId} {first cap : Array Value} (hb : bodyB P f = true)
    {F : List Nat} {w0 w : World} {ok : Nat → Prop} {h : Nat → Kd} {X : Nat → List A} {N : Nat} {arg : Nat → List Value} (H : Ow (h 0) F w0 w (X 0))
    (hcallee : ∀ (yv : Value) (x y : A), (∀ k W, ok k → Ow (h k) F w0 W (x :: y :: X k) → CallF P yv (arg k) W fun e w' => e = .returned (.bool true) ∧ Ow (h (k + 1)) F w0 w' (x :: y :: X (k + 1))) →
      ∀ W, Ow (h 0) F w0 W (x :: y :: X 0) → Calls P f (first.toList ++ [yv] ++ cap.toList).toArray W fun e w' => (∃ v, e = .returned v) ∧ Ow (h N) F w0 w' (x :: y :: X N))
    (hround : ∀ (obf : LoopState → Option Code → Obj) (l d k : Nat) (W : World) (Φ : Value → World → Prop), ok k → Ow (h k) F w0 W (ob l (obf .ready none) :: ob d (.deferred (some [])) :: X k) →
      (∀ w', Ow (h (k + 1)) F w0 w' (ob l (obf .ready none) :: ob d (.deferred (some [])) :: X (k + 1)) → Φ (.bool true) w') → round obf l (arg k) W Φ)
    (hK : ∀ d w', Ow (h N) F w0 w' (ob d (.deferred (some [])) :: X N) → K d w') : RangeP P (.func (.func f) first cap) round os K R w := by
  intro obf hob hyield
  refine ⟨f, first, cap, rfl, hb, ?_⟩
  have hsz : (w.alloc (.deferred (some []))).heap.size = w.heap.size + 1 := by simp
  have h2 : Ow (h 0) F w0 ((w.alloc (.deferred (some []))).alloc (obf .ready none)) (ob (w.heap.size + 1) (obf .ready none) :: ob w.heap.size (.deferred (some [])) :: X 0) := by
    obtain ⟨Y, hY, hT⟩ := H
    have h2 := (hT.alloc (.deferred (some []))).alloc (obf .ready none)
    rw [hsz] at h2
    exact ⟨Y, hY, h2⟩
  refine (hcallee (.func (.yield (w.heap.size + 1)) #[] #[]) (ob (w.heap.size + 1) (obf .ready none)) (ob w.heap.size (.deferred (some []))) ?_ _ h2).mono ?_
  · intro k W hk h
    show CallV P (.func (.yield (w.heap.size + 1)) #[] #[]) (arg k) W _
    exact hyield _ _ _ (h.got List.mem_cons_self) (hround obf _ w.heap.size k W _ hk h fun w' h' => ⟨rfl, h'⟩)
  · rintro e w3 ⟨hv, h⟩
    exact ⟨hv, .ready, none, h.got List.mem_cons_self, by simp, .inl ⟨rfl, hK _ _ h.putTop.dropX⟩⟩
end Go.Sh
end
section
/-! ring: rows of steps. -/
namespace Go.Proofs.YtbecjmfcppginaaGreat
open Go.Sh Go.RowKit
set_option linter.unusedVariables false
set_option linter.unusedSimpArgs false
set_option maxRecDepth 20000
set_option maxHeartbeats 1000000
theorem lit1 (f : Fn) (a b : Array Value) : litCells Tryz.prog 78 1 [(0, .func f a b)] = some (#[.func f a b], 79) := by kernel_rfl
theorem lit2 (f f' : Fn) (a b a' b' : Array Value) : litCells Tryz.prog 78 2 [(0, .func f a b), (1, .func f' a' b')] = some (#[.func f a b, .func f' a' b'], 79) := by kernel_rfl
theorem lit3 (f f' f'' : Fn) (a b a' b' a'' b'' : Array Value) : litCells Tryz.prog 78 3 [(0, .func f a b), (1, .func f' a' b'), (2, .func f'' a'' b'')] = some (#[.func f a b, .func f' a' b', .func f'' a'' b''], 79) := by kernel_rfl
theorem Stp.one (q : Nat) (s : Stp) : (s.val q).oneCell' = true := by cases s <;> rfl
section
variable {q : Nat} {a : AD} {F : List Nat} {w0 w : World} {X Δ : List A}
theorem Dr.lit (h : Dr q a F w0 w X) {t : TypeId} {n : Nat} {parts : List (Nat × Value)} {c : Array Value} {el : TypeId} (hc : litCells Tryz.prog t n parts = some (c, el)) {K : Nat → World → Prop} (hK : ∀ k w', Dr q a F w0 w' (blk k c el :: X) → K k w') : LitS Tryz.prog t n parts w K := by
  unfold LitS
  rw [hc]
  exact Dr.alloc h hK
theorem Dr.back {Y : List A} (h : Dr q a F w0 w (Y ++ X)) : Dr q a F w0 w X := by
  induction Y with
  | nil => exact h
  | cons y Y ih => exact ih (Dr.dropX h)
/-- steps are put behind a row of steps -/
theorem Dr.app {g : Option Nat} {n cap k : Nat} {xs : List Value} {c : Array Value} (h : Dr q a F w0 w X) (hm : blk k c 79 ∈ X) (hk : Pick (rowP 79 1 g n cap xs) X Δ) (hv : ∀ u ∈ c.toList, u.oneCell' = true) (hn : n + c.size ≤ 1000000) :
    ∃ g' cap' w', (builtin .append #[78, 78] 78 #[false, false] #[.slice (ptr g) n cap, .slice (some ⟨k, 0, none⟩) c.size c.size]).run Tryz.prog w = .ok (.value (.slice (ptr g') (n + c.size) cap')) w' ∧ Dr q a F w0 w' (rowP 79 1 g' (n + c.size) cap' (xs ++ c.toList) :: Δ) := by
  obtain ⟨D, hD, hA, hT⟩ := h
  have hby : decide ((Tryz.t79).bytes ≤ 1000000) = true := by kernel_rfl
  have hby' := of_decide_eq_true hby
  have hmul : (n + c.size) * (Tryz.t79).bytes ≤ 1000000 * 1000000 := Nat.mul_le_mul (by omega) hby'
  obtain ⟨g', cap', w', hr, hT'⟩ := append_t (P := Tryz.prog) (t := 78) (ty := 78) (e := 79) (i := Tryz.t79) (z := .nilFunc) (size := 1) #[false, false] (by kernel_rfl) (by kernel_rfl) (by kernel_rfl) (by kernel_rfl) (by kernel_rfl) hT (hk.app (drvL D)) (a := ⟨k, 0, none⟩) (m := c.size) (c := c.size) (news := c.toList) (by rw [Array.length_toList, Nat.mul_one]) (fun j u hu => by
      rw [addr_add, Nat.zero_add]
      exact hT.ld (List.mem_append_left _ hm) (by simpa using hu)) hv (by simp only [maxLen]; omega) (by omega)
  exact ⟨g', cap', w', hr, D, hD, hA, hT'⟩
end
end Go.Proofs.YtbecjmfcppginaaGreat
end
section
/-! ring: Format. -/
namespace Go.Proofs.YtbecjmfcppginaaGreat
open Go.Sh Go.RowKit
set_option linter.unusedVariables false
set_option linter.unusedSimpArgs false
set_option maxRecDepth 20000
set_option maxHeartbeats 1000000
def zS : ByteArray := strB (List.replicate 64 0)
def slotOps (n : Nat) : List Op := (List.range n).map fun (i : Nat) => some (4 + 41 * (i : Int), zS)
def fmtOps (n : Nat) : List Op := slotOps n ++ [some (3, strB (markB 0)), none]
def formatF (a : AD) : AD × Int := if slotsN (a.safe.length : Int) = 0 then (a, 1) else runS a (fmtOps (slotsN (a.safe.length : Int)).toNat)
theorem slotOps_next (n : Nat) : slotOps (n + 1) = slotOps n ++ [some (4 + 41 * (n : Int), zS)] := by
  unfold slotOps; rw [List.range_succ, List.map_append]; rfl
section
variable {q : Nat} {a : AD} {F : List Nat} {w0 w : World} {X : List A}
theorem sectors_spec (h : Dr q a F w0 w X) : Ret Tryz.prog 34 #[.pointer (some ⟨q, 0, none⟩)] w (.int .i64 (a.safe.length : Int)) := by
  obtain ⟨D, rfl, hA, hT⟩ := h
  refine ret_of (drive_Drive_Sectors_calls ?_)
  unfold drive_Drive_Sectors
  refine ⟨_, rfl, _, _, _, hT.ld (b := D.p) (List.mem_append_right _ (List.mem_append_left _ List.mem_cons_self)) rfl, ?_, Ext.refl w⟩
  rw [hA.safe]
theorem Dr.nilRow (h : Dr q a F w0 w X) (e : TypeId) (size : Nat) : Dr q a F w0 w (rowP e size none 0 0 [] :: X) := by
  obtain ⟨D, hD, hA, hT⟩ := h
  exact ⟨D, hD, hA, T.nilRow hT _ _⟩
theorem format_spec (h : Dr q a F w0 w X) {N : Nat} (hF : a.Few N) (hN : N + 200 ≤ 1000000) (hlen : a.safe.length ≤ 4096) :
    Calls Tryz.prog 8 #[.pointer (some ⟨q, 0, none⟩)] w fun e w' => e = .returned (.int .i64 (formatF a).2) ∧ Dr q (formatF a).1 F w0 w' X := by
  refine (ring_Format_calls (R := fun v w' => v = .int .i64 (formatF a).2 ∧ Dr q (formatF a).1 F w0 w' X) ?_).mono fun e w' ⟨v, he, hv, h⟩ => ⟨by rw [he, hv], h⟩
  unfold ring_Format
  refine (sectors_spec h).mono fun e w1 ⟨he1, hx1⟩ => ⟨_, he1, ?_⟩
  refine (slots_spec (a.safe.length : Int) (by omega) (by omega) w1).mono fun e w2 ⟨he2, hx2⟩ => ⟨_, he2, ?_⟩
  have h2 := (h.quiet hx1).quiet hx2
  obtain ⟨n, hn⟩ : ∃ n : Nat, slotsN (a.safe.length : Int) = (n : Int) := ⟨(slotsN (a.safe.length : Int)).toNat, by unfold slotsN; omega⟩
  have hn99 : n ≤ 99 := by unfold slotsN at hn; omega
  have hf : formatF a = if (n : Int) = 0 then (a, 1) else runS a (fmtOps n) := by unfold formatF; rw [hn]; rfl
  rw [hn, hf]
  refine ⟨beq_t fun h0 => by rw [if_pos h0]; exact ⟨rfl, h2⟩, beq_f fun hne => ?_⟩
  rw [if_neg hne]
  refine ⟨fun vs w' => ∃ (i : Nat) (g : Option Nat) (cap : Nat) (l : List Stp) (Y : List A), vs = [.slice (ptr g) i cap, .int .i64 (i : Int)] ∧ i ≤ n ∧ l.length = i ∧ l.map Stp.op = slotOps i ∧ (∀ s ∈ l, ∀ x ∈ s.own q, x ∈ Y) ∧ Dr q a F w0 w' (rowP 79 1 g i cap (l.map (Stp.val q)) :: (Y ++ X)), fun vs _ => match vs with | [_, .int _ i] => (n - i).toNat | _ => 0, ⟨0, none, 0, [], [], rfl, by omega, rfl, rfl, fun s hs => by simp at hs, Dr.nilRow h2 _ _⟩, ?_⟩
  rintro vs w3 ⟨i, g, cap, l, Y, rfl, hi, hli, hlo, hown, h3⟩
  refine ⟨_, _, _, _, rfl, dec_t fun hlt => ?_, dec_f fun hge => ?_⟩
  · have hlt : i < n := by omega
    refine (repeat0_spec 64 (by decide) w3).mono fun e w4 ⟨he4, hx4⟩ => ⟨_, he4, ?_⟩
    have e41 : IntKind.i64.wrap (4 + IntKind.i64.wrap (41 * (i : Int))) = 4 + 41 * (i : Int) := by
      rw [wrap64 (41 * (i : Int)) (by omega) (by omega), wrap64 _ (by omega) (by omega)]
    rw [e41]
    refine (written_spec (h3.quiet hx4) (4 + 41 * (i : Int)) zS).mono fun e w5 ⟨k3, k4, k5, he5, h5⟩ => ⟨_, he5, ?_⟩
    refine Dr.lit h5 (lit1 _ _ _) fun k22 w6 h6 => ?_
    have h6 : Dr q a F w0 w6 (blk k22 #[(Stp.wr (4 + 41 * (i : Int)) zS k3 k4 k5).val q] 79 :: blk k3 #[.pointer (some ⟨q, 0, none⟩)] 26 :: blk k4 #[.int .i64 (4 + 41 * (i : Int))] 3 :: blk k5 #[.string zS] 9 :: rowP 79 1 g i cap (l.map (Stp.val q)) :: (Y ++ X)) := h6
    obtain ⟨g7, c7, w7, hr7, h7⟩ := Dr.app h6 List.mem_cons_self (.tail (.tail (.tail (.tail .head)))) (fun u hu => by
      have hu : u ∈ [(Stp.wr (4 + 41 * (i : Int)) zS k3 k4 k5).val q] := hu
      rw [List.mem_singleton.1 hu]; exact Stp.one _ _) (by show i + 1 ≤ 1000000; omega)
    have em : l.map (Stp.val q) ++ (#[(Stp.wr (4 + 41 * (i : Int)) zS k3 k4 k5).val q] : Array Value).toList = (l ++ [Stp.wr (4 + 41 * (i : Int)) zS k3 k4 k5]).map (Stp.val q) := by rw [List.map_append]; rfl
    rw [em] at h7
    refine ⟨_, _, _, w7, hr7, ⟨i + 1, g7, c7, l ++ [Stp.wr (4 + 41 * (i : Int)) zS k3 k4 k5], blk k22 #[(Stp.wr (4 + 41 * (i : Int)) zS k3 k4 k5).val q] 79 :: ((Stp.wr (4 + 41 * (i : Int)) zS k3 k4 k5).own q ++ Y), ?_, by omega, by rw [List.length_append, hli]; rfl, ?_, ?_, h7⟩, ?_⟩
    · rw [wrap64 _ (by omega) (by omega)]; rfl
    · rw [List.map_append, hlo, slotOps_next]; rfl
    · intro s hs x hx
      rcases List.mem_append.1 hs with hs | hs
      · exact List.mem_cons_of_mem _ (List.mem_append_right _ (hown s hs x hx))
      · rw [List.mem_singleton.1 hs] at hx
        exact List.mem_cons_of_mem _ (List.mem_append_left _ hx)
    · show ((n : Int) - IntKind.i64.wrap ((i : Int) + 1)).toNat < ((n : Int) - (i : Int)).toNat
      rw [wrap64 _ (by omega) (by omega)]; omega
  · have hie : i = n := by omega
    subst hie
    refine (mark_spec (n := 0) (by decide) w3).mono fun e w8 ⟨he8, hx8⟩ => ⟨_, he8, ?_⟩
    refine (written_spec (h3.quiet hx8) 3 (strB (markB 0))).mono fun e w9 ⟨k3, k4, k5, he9, h9⟩ => ⟨_, he9, ?_⟩
    refine Dr.lit h9 (lit2 _ _ _ _ _ _) fun k31 w10 h10 => ?_
    have h10 : Dr q a F w0 w10 (blk k31 #[(Stp.wr 3 (strB (markB 0)) k3 k4 k5).val q, Stp.fl.val q] 79 :: blk k3 #[.pointer (some ⟨q, 0, none⟩)] 26 :: blk k4 #[.int .i64 3] 3 :: blk k5 #[.string (strB (markB 0))] 9 :: rowP 79 1 g i cap (l.map (Stp.val q)) :: (Y ++ X)) := h10
    obtain ⟨g11, c11, w11, hr11, h11⟩ := Dr.app h10 List.mem_cons_self (.tail (.tail (.tail (.tail .head)))) (fun u hu => by
      have hu : u ∈ [(Stp.wr 3 (strB (markB 0)) k3 k4 k5).val q, Stp.fl.val q] := hu
      simp only [List.mem_cons, List.not_mem_nil, or_false] at hu
      rcases hu with rfl | rfl <;> exact Stp.one _ _) (by show i + 2 ≤ 1000000; omega)
    have em : l.map (Stp.val q) ++ (#[(Stp.wr 3 (strB (markB 0)) k3 k4 k5).val q, Stp.fl.val q] : Array Value).toList = (l ++ [Stp.wr 3 (strB (markB 0)) k3 k4 k5, Stp.fl]).map (Stp.val q) := by rw [List.map_append]; rfl
    rw [em] at h11
    refine ⟨_, _, _, w11, hr11, ?_⟩
    have hl2 : (l ++ [Stp.wr 3 (strB (markB 0)) k3 k4 k5, Stp.fl]).length = i + 2 := by rw [List.length_append, hli]; rfl
    have hop : (l ++ [Stp.wr 3 (strB (markB 0)) k3 k4 k5, Stp.fl]).map Stp.op = fmtOps i := by rw [List.map_append, hlo]; rfl
    have h11 : Dr q a F w0 w11 (rowP 79 1 g11 (i + 2) c11 ((l ++ [Stp.wr 3 (strB (markB 0)) k3 k4 k5, Stp.fl]).map (Stp.val q)) :: blk k31 #[(Stp.wr 3 (strB (markB 0)) k3 k4 k5).val q, Stp.fl.val q] 79 :: ((Stp.wr 3 (strB (markB 0)) k3 k4 k5).own q ++ (Y ++ X))) := h11
    rw [← hl2] at h11
    have hst := steps_spec h11 List.mem_cons_self (fun s hs x hx => by
      rcases List.mem_append.1 hs with hs | hs
      · exact List.mem_cons_of_mem _ (List.mem_cons_of_mem _ (List.mem_append_right _ (List.mem_append_left _ (hown s hs x hx))))
      · simp only [List.mem_cons, List.not_mem_nil, or_false] at hs
        rcases hs with rfl | rfl
        · exact List.mem_cons_of_mem _ (List.mem_cons_of_mem _ (List.mem_append_left _ hx))
        · simp [Stp.own] at hx) hF (by rw [hl2]; omega)
    rw [hop, hl2] at hst
    exact hst.mono fun e w12 ⟨he12, h12⟩ => ⟨_, he12, rfl, Dr.back (Dr.back (Dr.dropX (Dr.dropX h12)))⟩
end
end Go.Proofs.YtbecjmfcppginaaGreat
end
section
/-! ring: first, Left, Next, Trim. -/
namespace Go.Proofs.YtbecjmfcppginaaGreat
open Go.Sh Go.RowKit
set_option linter.unusedVariables false
set_option linter.unusedSimpArgs false
set_option maxRecDepth 20000
set_option maxHeartbeats 1000000
def rgC (q S t n : Nat) : Array Value := #[.pointer (some ⟨q, 0, none⟩), .int .i64 (S : Int), .int .u64 (t : Int), .int .u64 (n : Int)]
def leftF (S t n : Nat) : Int := IntKind.i64.wrap ((S : Int) - IntKind.i64.wrap (IntKind.u64.wrap (IntKind.u64.wrap ((n : Int) - (t : Int)) - 1)))
theorem left_val {S t n : Nat} (hS : S ≤ 1000000) (h : t < n) (h1 : n ≤ t + 1000000) : leftF S t n = (S : Int) - ((n : Int) - t - 1) := by
  unfold leftF
  rw [wrapU64, wrapU64, Int.emod_eq_of_lt (by omega) (by omega), Int.emod_eq_of_lt (by omega) (by omega), wrap64 ((n : Int) - t - 1) (by omega) (by omega), wrap64 _ (by omega) (by omega)]
def trimOps (m : Nat) : List Op := [some (3, strB (markB m)), none]
def trimF (a : AD) (t n m : Nat) : AD × Nat × Int :=
  if IntKind.u64.wrap ((m : Int) - (t : Int)) ≥ IntKind.u64.wrap ((n : Int) - (t : Int)) then (a, t, 1) else ((runS a (trimOps m)).1, (if (runS a (trimOps m)).2 = 0 then m else t), (runS a (trimOps m)).2)
section
variable {q r S t n : Nat} {a : AD} {F : List Nat} {w0 w : World} {X : List A}
theorem Dr.rdrew (h : Dr q a F w0 w X) : Dr q a F w0 w.drew X := by
  obtain ⟨D, hD, hA, hT⟩ := h
  exact ⟨D, hD, hA, hT.drew⟩
theorem Dr.blkRow {k m : Nat} {e : TypeId} {c : Array Value} {xs : List Value} (h : Dr q a F w0 w (blk k c e :: X)) (hc : c.toList = xs) (hn : c.size = m) (hm : m ≤ 1000000000) : Dr q a F w0 w (rowP e 1 (some k) m m xs :: X) := by
  obtain ⟨D, hD, hA, hT⟩ := h
  exact ⟨D, hD, hA, blk_row hT hc hn hm⟩
theorem first_spec (h : Dr q a F w0 w X) (hm : blk r (rgC q S t n) 87 ∈ X) (h1 : 1 ≤ S) (h2 : S ≤ 1000000) (m : Nat) : Ret Tryz.prog 60 #[.pointer (some ⟨r, 0, none⟩), .int .u64 (m : Int)] w (.int .i64 (4 + 41 * ((m % S : Nat) : Int))) := by
  refine ret_of (ring_Ring_first_calls ?_)
  unfold ring_Ring_first
  refine ⟨_, rfl, (S : Int), by rw [addr_add]; exact h.under.ld (c := rgC q S t n) hm rfl, ?_, ?_, Ext.refl w⟩
  · rw [wrapU64]; omega
  · have hlt : m % S < S := Nat.mod_lt _ (by omega)
    have e0 : IntKind.u64.wrap (S : Int) = (S : Int) := by rw [wrapU64]; omega
    rw [e0, Int.tmod_eq_emod_of_nonneg (by omega), ← Int.natCast_emod]
    generalize m % S = j at hlt
    rw [wrap64 (j : Int) (by omega) (by omega), wrap64 (41 * (j : Int)) (by omega) (by omega), wrap64 _ (by omega) (by omega)]
theorem left_spec (h : Dr q a F w0 w X) (hm : blk r (rgC q S t n) 87 ∈ X) : Ret Tryz.prog 29 #[.pointer (some ⟨r, 0, none⟩)] w (.int .i64 (leftF S t n)) := by
  refine ret_of (ring_Ring_Left_calls ?_)
  unfold ring_Ring_Left
  exact ⟨fun w' => Dr q a F w0 w' X, Dr.rdrew h, _, rfl, (S : Int), fun w' h' => by rw [addr_add]; exact h'.under.ld (c := rgC q S t n) hm rfl, _, rfl, (n : Int), fun w' h' => by rw [addr_add]; exact h'.under.ld (c := rgC q S t n) hm rfl, _, rfl, (t : Int), fun w' h' => by rw [addr_add]; exact h'.under.ld (c := rgC q S t n) hm rfl, rfl, ⟨rfl, rfl, Nat.le_refl _, fun b _ => rfl⟩⟩
theorem next_spec (h : Dr q a F w0 w X) (hm : blk r (rgC q S t n) 87 ∈ X) : Ret Tryz.prog 31 #[.pointer (some ⟨r, 0, none⟩)] w (.int .u64 (n : Int)) := by
  refine ret_of (ring_Ring_Next_calls ?_)
  unfold ring_Ring_Next
  exact ⟨_, rfl, (n : Int), by rw [addr_add]; exact h.under.ld (c := rgC q S t n) hm rfl, rfl, Ext.refl w⟩
theorem trim_spec' (h : Dr q a F w0 w (blk r (rgC q S t n) 87 :: X)) {N : Nat} (hF : a.Few N) (hN : N + 2 ≤ 1000000) {m : Nat} (hm : m < 2 ^ 64) : Calls Tryz.prog 27 #[.pointer (some ⟨r, 0, none⟩), .int .u64 (m : Int)] w fun e w' => e = .returned (.int .i64 (trimF a t n m).2.2) ∧ Dr q (trimF a t n m).1 F w0 w' (blk r (rgC q S (trimF a t n m).2.1 n) 87 :: X) := by
  refine (ring_Ring_Trim_calls (R := fun v w' => v = .int .i64 (trimF a t n m).2.2 ∧ Dr q (trimF a t n m).1 F w0 w' (blk r (rgC q S (trimF a t n m).2.1 n) 87 :: X)) ?_).mono fun e w' ⟨v, he, hv, h⟩ => ⟨by rw [he, hv], h⟩
  unfold ring_Ring_Trim
  have hd := Dr.rdrew h
  refine ⟨fun w' => Dr q a F w0 w' (blk r (rgC q S t n) 87 :: X), hd, _, rfl, (t : Int), fun w' h' => by rw [addr_add]; exact h'.under.ld (c := rgC q S t n) List.mem_cons_self rfl, _, rfl, (n : Int), fun w' h' => by rw [addr_add]; exact h'.under.ld (c := rgC q S t n) List.mem_cons_self rfl, _, rfl, (t : Int), fun w' h' => by rw [addr_add]; exact h'.under.ld (c := rgC q S t n) List.mem_cons_self rfl, dec_t fun hge => ?_, dec_f fun hlt => ?_⟩
  · have ht : trimF a t n m = (a, t, 1) := if_pos hge
    rw [ht]; exact ⟨rfl, hd⟩
  have ht : trimF a t n m = ((runS a (trimOps m)).1, (if (runS a (trimOps m)).2 = 0 then m else t), (runS a (trimOps m)).2) := if_neg hlt
  rw [ht]
  have hd2 := Dr.rdrew hd
  have rd : ∀ w', (∃ a' Y, Dr q a' F w0 w' (Y ++ blk r (rgC q S t n) 87 :: X)) → w'.cell? ⟨r, 0, none⟩ = some (.pointer (some ⟨q, 0, none⟩)) := fun w' ⟨a', Y, h'⟩ => h'.under.ld (c := rgC q S t n) (List.mem_append_right _ List.mem_cons_self) rfl
  refine ⟨fun w' => ∃ a' Y, Dr q a' F w0 w' (Y ++ blk r (rgC q S t n) 87 :: X), ⟨a, [], hd2⟩, _, rfl, _, rd, ?_⟩
  refine (mark_spec hm w.drew.drew).mono fun e w1 ⟨he1, hx1⟩ => ⟨_, he1, ⟨a, [], hd2.quiet hx1⟩, ?_⟩
  refine (written_spec (hd2.quiet hx1) 3 (strB (markB m))).mono fun e w2 ⟨k3, k4, k5, he2, h2⟩ => ⟨_, he2, ⟨a, _, h2⟩, _, rfl, _, rd, ?_⟩
  refine Dr.lit h2 (lit2 _ _ _ _ _ _) fun k34 w3 h3 => ⟨⟨a, _ :: (Stp.wr 3 (strB (markB m)) k3 k4 k5).own q, h3⟩, ?_⟩
  have h3 : Dr q a F w0 w3 (rowP 79 1 (some k34) 2 2 ([Stp.wr 3 (strB (markB m)) k3 k4 k5, Stp.fl].map (Stp.val q)) :: ((Stp.wr 3 (strB (markB m)) k3 k4 k5).own q ++ blk r (rgC q S t n) 87 :: X)) := Dr.blkRow h3 rfl rfl (by decide)
  refine (steps_spec (l := [Stp.wr 3 (strB (markB m)) k3 k4 k5, Stp.fl]) (g := some k34) h3 List.mem_cons_self (fun s hs x hx => by
    simp only [List.mem_cons, List.not_mem_nil, or_false] at hs
    rcases hs with rfl | rfl
    · exact List.mem_cons_of_mem _ (List.mem_append_left _ hx)
    · simp [Stp.own] at hx) hF (by show N + 2 ≤ 1000000; omega)).mono fun e w4 ⟨he4, h4⟩ => ⟨_, he4, ⟨_, _ :: (Stp.wr 3 (strB (markB m)) k3 k4 k5).own q, h4⟩, ?_⟩
  have h4 : Dr q (runS a (trimOps m)).1 F w0 w4 (blk r (rgC q S t n) 87 :: X) := Dr.back (Dr.dropX h4)
  have eo : [Stp.wr 3 (strB (markB m)) k3 k4 k5, Stp.fl].map Stp.op = trimOps m := rfl
  rw [eo]
  refine ⟨beq_t fun h0 => ⟨_, rfl, ?_⟩, beq_f fun hne => ?_⟩
  · rw [addr_add]
    refine Dr.st1 (c' := rgC q S m n) h4 (show 0 + 2 < 4 by decide) rfl rfl fun w5 h5 => ⟨rfl, ?_⟩
    show Dr q _ F w0 w5 (blk r (rgC q S (if (runS a (trimOps m)).2 = 0 then m else t) n) 87 :: X)
    rw [if_pos h0]; exact h5
  · refine ⟨rfl, ?_⟩
    show Dr q _ F w0 w4 (blk r (rgC q S (if (runS a (trimOps m)).2 = 0 then m else t) n) 87 :: X)
    rw [if_neg hne]; exact h4
end
end Go.Proofs.YtbecjmfcppginaaGreat
end
