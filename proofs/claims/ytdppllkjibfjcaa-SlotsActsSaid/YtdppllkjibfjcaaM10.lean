import Derived.Test.YtdppllkjibfjcaaM9
section
/-! the reference's drive: how it lies, what it tells. -/
namespace Go.Proofs.Ytdppllkjibfjcaa
open Go.Sh Go.Maps Go.RowKit
set_option linter.unusedVariables false
set_option maxHeartbeats 1000000
set_option maxRecDepth 20000
/-- the writes of one sector -/
structure RW where
  g : Option Nat
  cap : Nat
  l : List ByteArray
def RW.val (e : RW) : Value := .slice (ptr e.g) e.l.length e.cap
def RW.row (e : RW) : A := rowP 9 1 e.g e.l.length e.cap (e.l.map .string)
structure RL where
  p : Nat
  gs : Option Nat
  cs : Nat
  gw : Option Nat
  cw : Nat
  gp : Option Nat
  cp : Nat
  safe : List ByteArray
  ws : List RW
  sp : List Bool
  gone : Bool
  cut : Bool
  left : Int
def hdr (R : RL) : List A := [blk R.p #[.slice (ptr R.gs) R.safe.length R.cs, .slice (ptr R.gw) R.ws.length R.cw, .slice (ptr R.gp) R.sp.length R.cp, .bool R.gone, .bool R.cut, .int .i64 R.left] 48,
  rowP 9 1 R.gs R.safe.length R.cs (R.safe.map .string), rowP 22 1 R.gw R.ws.length R.cw (R.ws.map RW.val), rowP 4 1 R.gp R.sp.length R.cp (R.sp.map .bool)]
def refL (R : RL) : List A := hdr R ++ R.ws.map RW.row
structure RAbs (R : RL) (a : AD) : Prop where
  n1 : a.safe.length ≤ 4096
  safe : R.safe = a.safe
  wl : R.ws.length = a.safe.length
  ws : ∀ i (e : RW), R.ws[i]? = some e → e.l = a.pend i
  pl : R.sp.length = a.safe.length
  sp : ∀ i b, R.sp[i]? = some b → b = a.spoilt i
  dead : R.gone = a.dead
  power : match a.power with
    | none => R.cut = false
    | some n => R.cut = true ∧ R.left = n ∧ n ≤ 9223372036854775807
/-- the reference's drive, and how it stands -/
def Rf (p : Nat) (a : AD) (F : List Nat) (w0 w : World) (X : List A) : Prop := ∃ R, R.p = p ∧ RAbs R a ∧ T F w0 w (refL R ++ X)
theorem T.row1 {F : List Nat} {w0 w : World} {Γ : List A} {e : TypeId} {g : Option Nat} {n cap i : Nat} {xs : List Value} {v : Value} (h : T F w0 w Γ) (hm : rowP e 1 g n cap xs ∈ Γ) (hv : xs[i]? = some v) :
    ∃ b, g = some b ∧ w.cell? (Addr.add ⟨b, 0, none⟩ (i * 1)) = some v := by
  have hs := h.says hm
  have hl := rowP.len hs
  have hi := (List.getElem?_eq_some_iff.1 hv).1
  obtain ⟨b, rfl⟩ := rowP.pos hs (by omega)
  refine ⟨b, rfl, ?_⟩
  rw [addr_add, Nat.zero_add, Nat.mul_one]
  exact rowP.cell hs hv
theorem StRow1.t {F : List Nat} {w0 w : World} {Γ Δ : List A} {e : TypeId} {n cap b k : Nat} {xs : List Value} {v : Value} {K : World → Prop} (hT : T F w0 w Γ) (hk : Pick (rowP e 1 (some b) n cap xs) Γ Δ) (hkl : k < xs.length) (hv : scalar v = true)
    (h : ∀ w', T F w0 w' (rowP e 1 (some b) n cap (xs.set k v) :: Δ) → K w') : St (Addr.add ⟨b, 0, none⟩ (k * 1)) v w K := by
  rw [addr_add, Nat.zero_add, Nat.mul_one]
  exact StRow.t hT hk hkl hv h
theorem RAbs.off {R : RL} {a : AD} (h : RAbs R a) : (R.cut && R.left == 0) = a.off := by
  have hp := h.power
  unfold AD.off
  cases ha : a.power with
  | none => rw [ha] at hp; simp only at hp; simp [hp]
  | some n =>
    rw [ha] at hp
    simp only at hp
    rw [hp.1, hp.2.1]
    by_cases hn : n = 0
    · subst hn; rfl
    · have h1 : ((n : Int) == 0) = false := by simpa using hn
      rw [h1]; simp [hn]
theorem Rf.quiet {p : Nat} {a : AD} {F : List Nat} {w0 w w' : World} {X : List A} (h : Rf p a F w0 w X) (he : Ext w w') : Rf p a F w0 w' X := by
  obtain ⟨R, h1, h2, h3⟩ := h
  exact ⟨R, h1, h2, h3.quiet he⟩
theorem Rf.sub {p : Nat} {a : AD} {F : List Nat} {w0 w : World} {X : List A} (h : Rf p a F w0 w X) : ∃ F, Rf p a F w w [] := by
  obtain ⟨R, h1, h2, h3⟩ := h
  exact ⟨_, R, h1, h2, by rw [List.append_nil]; exact (T.subL h3).start⟩
theorem roff_r {p : Nat} {a : AD} {F : List Nat} {w0 w : World} {X : List A} (h : Rf p a F w0 w X) : Ret Try.prog 53 #[.pointer (some ⟨p, 0, none⟩)] w (.bool a.off) := by
  obtain ⟨R, rfl, hA, hT⟩ := h
  rw [← hA.off]
  refine ret_of (revetmentref04_Drive_off_calls ?_)
  unfold revetmentref04_Drive_off
  refine ⟨_, rfl, _, hT.ldA (by repeat (first | exact List.Mem.head _ | refine List.Mem.tail _ ?_)) rfl, fun hc => ⟨_, rfl, _, hT.ldA (by repeat (first | exact List.Mem.head _ | refine List.Mem.tail _ ?_)) rfl, ?_, .refl w⟩, fun hc => ⟨?_, .refl w⟩⟩
  · rw [hc]; rfl
  · rw [hc]; rfl
theorem rmay_r {p : Nat} {a : AD} {F : List Nat} {w0 w : World} {X : List A} (h : Rf p a F w0 w X) (i : Int) : Ret Try.prog 51 #[.pointer (some ⟨p, 0, none⟩), .int .i64 i] w (.int .i64 (a.may i)) := by
  have h0 := h
  obtain ⟨R, rfl, hA, hT⟩ := h
  refine ret_of (revetmentref04_Drive_may_calls ?_)
  unfold revetmentref04_Drive_may
  have hd := hA.dead
  refine ⟨_, rfl, _, hT.ldA (by repeat (first | exact List.Mem.head _ | refine List.Mem.tail _ ?_)) rfl, fun hc => ⟨?_, .refl w⟩, fun hc => ?_⟩
  · unfold AD.may; rw [if_pos (by rw [← hd]; exact hc)]
  · have hnd : ¬ a.dead = true := by rw [← hd, hc]; simp
    refine (roff_r h0).mono fun e w1 ⟨he, hx⟩ => ⟨_, he, fun ho => ⟨?_, hx⟩, fun ho => ⟨dec_t fun h1 => ⟨?_, hx⟩, dec_f fun h1 => ⟨_, rfl, _, _, _, (hT.quiet hx).ld (by repeat (first | exact List.Mem.head _ | refine List.Mem.tail _ ?_)) rfl, dec_t fun h2 => ⟨?_, hx⟩, dec_f fun h2 => ⟨?_, hx⟩⟩⟩⟩
    · unfold AD.may; rw [if_neg hnd, if_pos ho]
    · unfold AD.may; rw [if_neg hnd, if_neg (by rw [ho]; simp), if_pos (.inl h1)]
    · unfold AD.may; rw [if_neg hnd, if_neg (by rw [ho]; simp), if_pos (.inr (by rw [← hA.safe]; exact h2))]
    · unfold AD.may; rw [if_neg hnd, if_neg (by rw [ho]; simp), if_neg (by rw [← hA.safe]; omega)]
theorem rsafe_r {p : Nat} {a : AD} {F : List Nat} {w0 w : World} {X : List A} (h : Rf p a F w0 w X) (i : Int) : Ret Try.prog 58 #[.pointer (some ⟨p, 0, none⟩), .int .i64 i] w (.tuple #[.string (a.safeAt i).1, .int .i64 (a.safeAt i).2]) := by
  obtain ⟨R, rfl, hA, hT⟩ := h
  refine ret_of (revetmentref04_Drive_Safe_calls ?_)
  unfold revetmentref04_Drive_Safe
  have key : ∀ x : ByteArray × Int, a.safeAt i = x → (Value.tuple #[.string x.1, .int .i64 x.2]) = .tuple #[.string (a.safeAt i).1, .int .i64 (a.safeAt i).2] := fun x hx => by rw [hx]
  refine ⟨dec_t fun h1 => ⟨key (noB, 70) (by unfold AD.safeAt; rw [if_pos (.inl h1)]), .refl w⟩, dec_f fun h1 => ⟨_, rfl, _, _, _, hT.ld (by repeat (first | exact List.Mem.head _ | refine List.Mem.tail _ ?_)) rfl, dec_t fun h2 => ⟨key (noB, 70) (by unfold AD.safeAt; rw [if_pos (.inr (by rw [← hA.safe]; exact h2))]), .refl w⟩, dec_f fun h2 => ?_⟩⟩
  have hlt : i.toNat < R.safe.length := by omega
  obtain ⟨b, hb, hc⟩ := T.row1 (i := i.toNat) (v := .string R.safe[i.toNat]) hT (show rowP 9 1 R.gs R.safe.length R.cs (R.safe.map .string) ∈ _ from (by repeat (first | exact List.Mem.head _ | refine List.Mem.tail _ ?_))) (by rw [List.getElem?_map, List.getElem?_eq_getElem hlt]; rfl)
  refine ⟨_, rfl, _, _, _, hT.ld (by repeat (first | exact List.Mem.head _ | refine List.Mem.tail _ ?_)) (by rw [hb]; rfl), _, rfl, by omega, by omega, _, hc, key (R.safe[i.toNat], 0) ?_, .refl w⟩
  unfold AD.safeAt
  rw [if_neg (by rw [← hA.safe]; omega), ← hA.safe, List.getD_eq_getElem?_getD, List.getElem?_eq_getElem hlt]; rfl
theorem rread_r {p : Nat} {a : AD} {F : List Nat} {w0 w : World} {X : List A} (h : Rf p a F w0 w X) (hF : a.Few 1000000) (i : Int) : Ret Try.prog 55 #[.pointer (some ⟨p, 0, none⟩), .int .i64 i] w (.tuple #[.string (a.read i).1, .int .i64 (a.read i).2]) := by
  have h0 := h
  obtain ⟨R, rfl, hA, hT⟩ := h
  refine ret_of (revetmentref04_Drive_Read_calls ?_)
  unfold revetmentref04_Drive_Read
  have key : ∀ x : ByteArray × Int, a.read i = x → (Value.tuple #[.string x.1, .int .i64 x.2]) = .tuple #[.string (a.read i).1, .int .i64 (a.read i).2] := fun x hx => by rw [hx]
  refine (rmay_r h0 i).mono fun e w1 ⟨he, hx⟩ => ⟨_, he, bne_t fun hm => ⟨key (noB, a.may i) (by unfold AD.read; rw [if_pos hm]), hx⟩, bne_f fun hm => ?_⟩
  have hT1 := hT.quiet hx
  have hi := AD.may_zero hm
  have hrd := AD.read_of hm
  have hp : i.toNat < R.sp.length := by rw [hA.pl]; omega
  have hw : i.toNat < R.ws.length := by rw [hA.wl]; omega
  have hs : i.toNat < R.safe.length := by rw [hA.safe]; omega
  obtain ⟨b1, hb1, hc1⟩ := T.row1 (i := i.toNat) (v := .bool R.sp[i.toNat]) hT1 (show rowP 4 1 R.gp R.sp.length R.cp (R.sp.map .bool) ∈ _ from (by repeat (first | exact List.Mem.head _ | refine List.Mem.tail _ ?_))) (by rw [List.getElem?_map, List.getElem?_eq_getElem hp]; rfl)
  have hsp := hA.sp i.toNat _ (List.getElem?_eq_getElem hp)
  refine ⟨_, rfl, _, _, _, hT1.ldA (by repeat (first | exact List.Mem.head _ | refine List.Mem.tail _ ?_)) (by rw [hb1]; rfl), _, rfl, by omega, by omega, _, hc1, fun ht => ⟨key (noB, 41) (by rw [hrd, if_pos (by rw [← hsp]; exact ht)]), hx⟩, fun ht => ?_⟩
  have hns : ¬ a.spoilt i.toNat = true := by rw [← hsp, ht]; simp
  rw [if_neg hns] at hrd
  obtain ⟨b2, hb2, hc2⟩ := T.row1 (i := i.toNat) (v := R.ws[i.toNat].val) hT1 (show rowP 22 1 R.gw R.ws.length R.cw (R.ws.map RW.val) ∈ _ from (by repeat (first | exact List.Mem.head _ | refine List.Mem.tail _ ?_))) (by rw [List.getElem?_map, List.getElem?_eq_getElem hw]; rfl)
  have hws := hA.ws i.toNat _ (List.getElem?_eq_getElem hw)
  have hmem : R.ws[i.toNat] ∈ R.ws := List.getElem_mem hw
  generalize he : R.ws[i.toNat] = e at *
  refine ⟨_, rfl, _, _, _, hT1.ldA (by repeat (first | exact List.Mem.head _ | refine List.Mem.tail _ ?_)) (by rw [hb2]; rfl), _, rfl, by omega, by omega, _, _, _, hc2, dec_t fun hpos => ?_, dec_f fun hz => ?_⟩
  · have hne : e.l ≠ [] := by intro h; rw [h] at hpos; simp at hpos
    have hfl : e.l.length ≤ 1000000 := by rw [hws]; exact hF _
    have hw1 : IntKind.i64.wrap ((e.l.length : Int) - 1) = ((e.l.length - 1 : Nat) : Int) := by rw [wrap64 _ (by omega) (by omega)]; omega
    have hlast : e.l[e.l.length - 1]? = some (e.l.getLast hne) := by rw [List.getLast_eq_getElem]; exact List.getElem?_eq_getElem (by omega)
    obtain ⟨b3, hb3, hc3⟩ := T.row1 (i := e.l.length - 1) (v := .string (e.l.getLast hne)) hT1 (show rowP 9 1 e.g e.l.length e.cap (e.l.map .string) ∈ _ from List.mem_append_left _ (List.mem_append_right _ (List.mem_map_of_mem (f := RW.row) hmem))) (by rw [List.getElem?_map, hlast]; rfl)
    rw [hw1]
    refine ⟨_, rfl, _, _, _, hT1.ldA (by repeat (first | exact List.Mem.head _ | refine List.Mem.tail _ ?_)) (by rw [hb2]; rfl), _, rfl, by omega, by omega, _, _, _, hc2, _, by rw [hb3]; rfl, by omega, by omega, _, by rw [show ((e.l.length - 1 : Nat) : Int).toNat = e.l.length - 1 by omega]; exact hc3, key (e.l.getLast hne, 0) ?_, hx⟩
    rw [hrd]
    unfold AD.top
    rw [← hws, List.getLast?_eq_some_getLast hne]
  · have hnil : e.l = [] := List.eq_nil_of_length_eq_zero (by omega)
    obtain ⟨b3, hb3, hc3⟩ := T.row1 (i := i.toNat) (v := .string R.safe[i.toNat]) hT1 (show rowP 9 1 R.gs R.safe.length R.cs (R.safe.map .string) ∈ _ from (by repeat (first | exact List.Mem.head _ | refine List.Mem.tail _ ?_))) (by rw [List.getElem?_map, List.getElem?_eq_getElem hs]; rfl)
    refine ⟨_, rfl, _, _, _, hT1.ld (by repeat (first | exact List.Mem.head _ | refine List.Mem.tail _ ?_)) (by rw [hb3]; rfl), _, rfl, by omega, by omega, _, hc3, key (R.safe[i.toNat], 0) ?_, hx⟩
    rw [hrd]
    unfold AD.top
    rw [← hws, hnil, ← hA.safe, List.getD_eq_getElem?_getD, List.getElem?_eq_getElem hs]; rfl
end Go.Proofs.Ytdppllkjibfjcaa
end
section
/-! the reference's drive: what turns. -/
namespace Go.Proofs.Ytdppllkjibfjcaa
open Go.Sh Go.Maps Go.RowKit
set_option linter.unusedVariables false
set_option maxHeartbeats 1000000
set_option maxRecDepth 20000
theorem append_none {P : Program} {w : World} {t ty e : TypeId} {i : TypeInfo} (cs : Array Bool) (ht : P.underlying t = some (.slice e)) (hi : P.info? e = some i) {g : Option Addr} {n cap : Nat} (hn : n ≤ cap) :
    (builtin .append #[t, t] ty cs #[.slice g n cap, .slice none 0 0]).run P w = .ok (.value (.slice g n cap)) w := by
  cases g <;> simp [builtin, Builtin.append_, run_underlying ht, sizeOf, typeInfo, program, Sem.run, hi, Builtin.lenOf, Builtin.firstCells, loadCells, hn, storeCells, Result.andThen]
/-- all of a row's texts behind another one's -/
theorem append_row {F : List Nat} {w0 w : World} {Γ Δ : List A} {g g2 : Option Nat} {n cap n2 cap2 : Nat} {l l2 : List ByteArray} (hT : T F w0 w Γ) (hk : Pick (rowP 9 1 g n cap (l.map .string)) Γ Δ) (hm : rowP 9 1 g2 n2 cap2 (l2.map .string) ∈ Γ) (hn : n ≤ 1000000) (hn2 : n2 ≤ 1000000) :
    ∃ g' cap' w', (builtin .append #[22, 22] 22 #[false, false] #[.slice (ptr g) n cap, .slice (ptr g2) n2 cap2]).run Try.prog w = .ok (.value (.slice (ptr g') (n + n2) cap')) w' ∧ T F w0 w' (rowP 9 1 g' (n + n2) cap' ((l ++ l2).map .string) :: Δ) := by
  have h1 := hT.says hm
  have hl2 := rowP.len h1
  cases g2 with
  | none =>
    have h2 : cap2 = 0 := h1.2.2.2
    have h3 : n2 ≤ cap2 := h1.2.1
    obtain rfl : n2 = 0 := by omega
    subst h2
    have : l2 = [] := by
      have : (l2.map Value.string).length = 0 := by simpa using hl2
      simpa using this
    subst this
    have h4 := (hT.pick hk).says List.mem_cons_self
    refine ⟨g, cap, w, append_none (e := 9) _ (by kernel_rfl) (i := Try.t9) (by kernel_rfl) h4.2.1, ?_⟩
    rw [List.append_nil]
    exact hT.pick hk
  | some b =>
    have hnews : ∀ j u, (l2.map Value.string)[j]? = some u → w.cell? (Addr.add ⟨b, 0, none⟩ j) = some u := fun j u hu => by
      rw [addr_add, Nat.zero_add]; exact rowP.cell h1 hu
    have hby : Try.t9.bytes = 16 := by kernel_rfl
    obtain ⟨g', cap', w', hr, hT'⟩ := append_t (P := Try.prog) (t := 22) (ty := 22) (e := 9) (i := Try.t9) (z := .string (ByteArray.mk #[])) (size := 1) #[false, false] (by kernel_rfl) (by kernel_rfl) (by kernel_rfl) (by kernel_rfl) (by kernel_rfl)
      hT hk (a := ⟨b, 0, none⟩) (m := n2) (c := cap2) (news := l2.map .string) hl2 hnews (fun u hu => by obtain ⟨x, _, rfl⟩ := List.mem_map.1 hu; rfl) (by simp only [maxLen]; omega) (by rw [hby]; omega)
    refine ⟨g', cap', w', hr, ?_⟩
    rw [List.map_append]
    exact hT'
theorem ws_split {ws : List RW} {i : Nat} (hi : i < ws.length) : (ws.map RW.row).Perm (ws[i].row :: (ws.take i ++ ws.drop (i + 1)).map RW.row) := by
  have e : ws = ws.take i ++ ws[i] :: ws.drop (i + 1) := by rw [List.getElem_cons_drop, List.take_append_drop]
  conv => lhs; rw [e]
  rw [List.map_append, List.map_cons, List.map_append]
  exact List.perm_middle
theorem ws_join {ws : List RW} {i : Nat} (hi : i < ws.length) (x : RW) : (x.row :: (ws.take i ++ ws.drop (i + 1)).map RW.row).Perm ((ws.set i x).map RW.row) := by
  rw [List.set_eq_take_append_cons_drop, if_pos hi, List.map_append, List.map_append, List.map_cons]
  exact List.perm_middle.symm
theorem nil_row {F : List Nat} {w0 w : World} {Γ : List A} (h : T F w0 w Γ) : T F w0 w (RW.row ⟨none, 0, []⟩ :: Γ) := h.nilRow 9 1
/-- the reference uses power that it counts -/
theorem ruse_r {R : RL} {F : List Nat} {w0 w : World} {X : List A} (hT : T F w0 w (refL R ++ X)) : Calls Try.prog 52 #[.pointer (some ⟨R.p, 0, none⟩)] w fun e w' => e = .returned (.tuple #[]) ∧ T F w0 w' (refL { R with left := if R.cut then IntKind.i64.wrap (R.left - 1) else R.left } ++ X) := by
  refine (revetmentref04_Drive_use_calls (R := fun v w' => v = .tuple #[] ∧ T F w0 w' (refL { R with left := if R.cut then IntKind.i64.wrap (R.left - 1) else R.left } ++ X)) ?_).mono fun e w' ⟨v, he, hv, ht⟩ => ⟨hv ▸ he, ht⟩
  unfold revetmentref04_Drive_use
  refine ⟨_, rfl, _, hT.ldA (by repeat (first | exact List.Mem.head _ | refine List.Mem.tail _ ?_)) rfl, fun hc => ⟨_, rfl, _, hT.ldA (by repeat (first | exact List.Mem.head _ | refine List.Mem.tail _ ?_)) rfl, _, rfl, ?_⟩, fun hc => ?_⟩
  · refine St.tA hT .head (by simp) (by rfl) rfl fun w2 h2 => ⟨rfl, ?_⟩
    have h3 : T F w0 w2 (refL { R with left := IntKind.i64.wrap (R.left - 1) } ++ X) := h2
    rw [if_pos hc]; exact h3
  · refine ⟨rfl, ?_⟩
    rw [if_neg (by rw [hc]; simp)]; exact hT
theorem RAbs.left {R : RL} {a : AD} (h : RAbs R a) (ho : a.off = false) : match (a.power.map (fun n : Nat => n - 1) : Option Nat) with
    | none => R.cut = false
    | some n => R.cut = true ∧ (if R.cut then IntKind.i64.wrap (R.left - 1) else R.left) = (n : Int) ∧ n ≤ 9223372036854775807 := by
  have hp := h.power
  cases ha : a.power with
  | none => rw [ha] at hp; exact hp
  | some n =>
    rw [ha] at hp
    have hn : n ≠ 0 := by
      intro e
      subst e
      unfold AD.off at ho
      rw [ha] at ho
      simp at ho
    simp only [Option.map_some] at hp ⊢
    refine ⟨hp.1, ?_, by omega⟩
    rw [hp.1, if_pos rfl, hp.2.1, wrap64 _ (by omega) (by omega)]
    omega
theorem perm4a {α : Type} (x y b s : α) (l : List α) : (x :: y :: b :: s :: l).Perm (b :: s :: y :: x :: l) := by
  have h1 : (x :: y :: b :: s :: l).Perm (y :: x :: b :: s :: l) := .swap _ _ _
  have h2 : (y :: x :: b :: s :: l).Perm ([b, s] ++ y :: x :: l) := (List.perm_append_comm (l₁ := [y, x]) (l₂ := [b, s])).append_right l
  exact h1.trans h2
theorem rwrite_r {p : Nat} {a : AD} {F : List Nat} {w0 w : World} {X : List A} (h : Rf p a F w0 w X) (hF : a.Few 999999) (i : Int) (s : ByteArray) :
    Calls Try.prog 26 #[.pointer (some ⟨p, 0, none⟩), .int .i64 i, .string s] w fun e w' => e = .returned (.int .i64 (a.put i s)) ∧ Rf p (a.write i s) F w0 w' X := by
  have h0 := h
  obtain ⟨R, rfl, hA, hT⟩ := h
  refine (revetmentref04_Drive_Write_calls (R := fun v w' => v = .int .i64 (a.put i s) ∧ Rf R.p (a.write i s) F w0 w' X) ?_).mono fun e w' ⟨v, he, hv, ht⟩ => ⟨hv ▸ he, ht⟩
  unfold revetmentref04_Drive_Write
  have fail : ∀ n, a.put i s = n → n ≠ 0 → ∀ w1, Ext w w1 → Value.int .i64 n = .int .i64 (a.put i s) ∧ Rf R.p (a.write i s) F w0 w1 X := fun n hn h1 w1 hx => by
    refine ⟨by rw [hn], ?_⟩
    unfold AD.write
    rw [if_pos (by rw [hn]; exact h1)]
    exact h0.quiet hx
  refine (rmay_r h0 i).mono fun e w1 ⟨he, hx⟩ => ⟨_, he, bne_t fun hm => fail _ (by unfold AD.put; rw [if_pos hm]) hm _ hx, bne_f fun hm => ⟨bne_t fun hs => fail 1 (by unfold AD.put; rw [if_neg (by simpa using hm), if_pos (by omega)]) (by decide) _ hx, bne_f fun hs => ?_⟩⟩
  have hs64 : s.size = 64 := by omega
  have hz : a.put i s = 0 := by unfold AD.put; rw [if_neg (by simpa using hm), if_neg (by omega)]
  have hi := AD.may_zero hm
  have hw : i.toNat < R.ws.length := by rw [hA.wl]; omega
  have hp : i.toNat < R.sp.length := by rw [hA.pl]; omega
  have hws := hA.ws i.toNat _ (List.getElem?_eq_getElem hw)
  have hfl : (R.ws[i.toNat]).l.length ≤ 999999 := by rw [hws]; exact hF _
  have hT1 := hT.quiet hx
  have hTx : T F w0 w1 ((R.ws[i.toNat]).row :: (hdr R ++ ((R.ws.take i.toNat ++ R.ws.drop (i.toNat + 1)).map RW.row ++ X))) := by
    refine hT1.swap ?_
    have h1 : (refL R ++ X).Perm (hdr R ++ ((R.ws[i.toNat]).row :: (R.ws.take i.toNat ++ R.ws.drop (i.toNat + 1)).map RW.row) ++ X) := by
      unfold refL
      exact ((ws_split hw).append_left (hdr R)).append_right X
    refine h1.trans ?_
    rw [List.append_assoc, List.cons_append]
    exact List.perm_middle
  generalize hrest : (R.ws.take i.toNat ++ R.ws.drop (i.toNat + 1)).map RW.row = rest at hTx
  refine Alloc.t hTx fun k18 w2 hT2 => ?_
  have hT2' : T F w0 w2 (rowP 9 1 (some k18) 0 0 (([] : List ByteArray).map .string) :: (R.ws[i.toNat]).row :: (hdr R ++ (rest ++ X))) := hT2.weak rfl fun g hg => ⟨rfl, Nat.le_refl _, by decide, #[], hg, rfl, rfl⟩
  obtain ⟨b, hb, hc⟩ := T.row1 (i := i.toNat) (v := (R.ws[i.toNat]).val) hT2' (show rowP 22 1 R.gw R.ws.length R.cw (R.ws.map RW.val) ∈ _ from (by repeat (first | exact List.Mem.head _ | refine List.Mem.tail _ ?_))) (by rw [List.getElem?_map, List.getElem?_eq_getElem hw]; rfl)
  refine ⟨_, rfl, _, _, _, hT2'.ldA (by repeat (first | exact List.Mem.head _ | refine List.Mem.tail _ ?_)) (by rw [hb]; rfl), _, rfl, by omega, by omega, _, _, _, hc, ?_⟩
  obtain ⟨g3, c3, w3, hr3, hT3⟩ := append_row (l := []) (l2 := (R.ws[i.toNat]).l) hT2' .head (List.mem_cons_of_mem _ List.mem_cons_self) (by decide) (by omega)
  refine ⟨_, _, _, w3, hr3, fun w => w.cell? (Addr.add ⟨R.p, 0, none⟩ 1) = some (.slice (ptr R.gw) R.ws.length R.cw), hT3.drew.ldA (by repeat (first | exact List.Mem.head _ | refine List.Mem.tail _ ?_)) rfl, _, rfl, _, _, _, fun w hw => hw, ?_⟩
  refine Alloc.t hT3.drew fun k35 w4 hT4 => ⟨hT4.ldA (by repeat (first | exact List.Mem.head _ | refine List.Mem.tail _ ?_)) rfl, ?_⟩
  have hT4' : T F w0 w4 (rowP 9 1 (some k35) 1 1 (([s] : List ByteArray).map .string) :: rowP 9 1 g3 (0 + (R.ws[i.toNat]).l.length) c3 (([] ++ (R.ws[i.toNat]).l).map .string) :: (R.ws[i.toNat]).row :: (hdr R ++ (rest ++ X))) := hT4.weak rfl fun g hg => ⟨rfl, Nat.le_refl _, by decide, #[.string s], hg, rfl, rfl⟩
  obtain ⟨g5, c5, w5, hr5, hT5⟩ := append_row (l := [] ++ (R.ws[i.toNat]).l) (l2 := [s]) (n := 0 + (R.ws[i.toNat]).l.length) (n2 := 1) (g2 := some k35) (cap2 := 1) hT4' (.tail .head) List.mem_cons_self (by omega) (by decide)
  refine ⟨_, _, _, w5, hr5, hT5.ldA (by repeat (first | exact List.Mem.head _ | refine List.Mem.tail _ ?_)) rfl, _, (by rw [hb]; rfl), by omega, by omega, ?_⟩
  have hrow : rowP 22 1 R.gw R.ws.length R.cw (R.ws.map RW.val) = rowP 22 1 (some b) R.ws.length R.cw (R.ws.map RW.val) := by rw [hb]
  have hT6 := T.drop (hT5.swap (List.Perm.swap _ _ _))
  have hT7 := T.drop (hT6.swap (List.Perm.swap _ _ _))
  simp only [List.nil_append, Nat.zero_add] at hT7 ⊢
  have hT8 : T F w0 w5 ((hdr R).take 2 ++ rowP 22 1 (some b) R.ws.length R.cw (R.ws.map RW.val) :: rowP 4 1 R.gp R.sp.length R.cp (R.sp.map .bool) :: rowP 9 1 g5 ((R.ws[i.toNat]).l.length + 1) c5 (((R.ws[i.toNat]).l ++ [s]).map .string) :: (rest ++ X)) := by
    rw [← hrow]
    refine hT7.swap ?_
    exact (List.perm_middle (l₁ := hdr R)).symm
  refine StRow1.t hT8 (.tail (.tail .head)) (by rw [List.length_map]; exact hw) rfl fun w6 hT9 => ?_
  obtain ⟨b2, hb2, hc2⟩ := T.row1 (i := i.toNat) (v := .bool R.sp[i.toNat]) hT9 (show rowP 4 1 R.gp R.sp.length R.cp (R.sp.map .bool) ∈ _ from (by repeat (first | exact List.Mem.head _ | refine List.Mem.tail _ ?_))) (by rw [List.getElem?_map, List.getElem?_eq_getElem hp]; rfl)
  rw [hb2] at hT9
  refine ⟨_, rfl, _, _, _, hT9.ldA (by repeat (first | exact List.Mem.head _ | refine List.Mem.tail _ ?_)) rfl, _, rfl, by omega, by omega, ?_⟩
  refine StRow1.t hT9 (.tail (.tail (.tail .head))) (by rw [List.length_map]; exact hp) rfl fun w7 hT10 => ?_
  have hT11 : T F w0 w7 (refL { R with ws := R.ws.set i.toNat ⟨g5, c5, (R.ws[i.toNat]).l ++ [s]⟩, sp := R.sp.set i.toNat false } ++ X) := by
    have hk : hdr { R with ws := R.ws.set i.toNat ⟨g5, c5, (R.ws[i.toNat]).l ++ [s]⟩, sp := R.sp.set i.toNat false } = [blk R.p #[.slice (ptr R.gs) R.safe.length R.cs, .slice (ptr R.gw) R.ws.length R.cw, .slice (ptr (some b2)) R.sp.length R.cp, .bool R.gone, .bool R.cut, .int .i64 R.left] 48,
        rowP 9 1 R.gs R.safe.length R.cs (R.safe.map .string), rowP 22 1 (some b) R.ws.length R.cw ((R.ws.map RW.val).set i.toNat (.slice (ptr g5) ((R.ws[i.toNat]).l.length + 1) c5)), rowP 4 1 (some b2) R.sp.length R.cp ((R.sp.map .bool).set i.toNat (.bool false))] := by
      rw [← hb, ← hb2]
      simp only [hdr, List.length_set, List.map_set, RW.val, List.length_append, List.length_singleton]
    unfold refL
    rw [hk]
    refine hT10.swap ?_
    have hj := ws_join hw ⟨g5, c5, (R.ws[i.toNat]).l ++ [s]⟩
    have e1 : RW.row ⟨g5, c5, (R.ws[i.toNat]).l ++ [s]⟩ = rowP 9 1 g5 ((R.ws[i.toNat]).l.length + 1) c5 (((R.ws[i.toNat]).l ++ [s]).map .string) := by simp [RW.row]
    rw [e1, hrest] at hj
    have h1 := ((hj.append_right X).append_left [blk R.p #[.slice (ptr R.gs) R.safe.length R.cs, .slice (ptr R.gw) R.ws.length R.cw, .slice (ptr (some b2)) R.sp.length R.cp, .bool R.gone, .bool R.cut, .int .i64 R.left] 48,
        rowP 9 1 R.gs R.safe.length R.cs (R.safe.map .string), rowP 22 1 (some b) R.ws.length R.cw ((R.ws.map RW.val).set i.toNat (.slice (ptr g5) ((R.ws[i.toNat]).l.length + 1) c5)), rowP 4 1 (some b2) R.sp.length R.cp ((R.sp.map .bool).set i.toNat (.bool false))])
    rw [List.append_assoc]
    refine List.Perm.trans ?_ h1
    exact perm4a _ _ _ _ _
  have hu := ruse_r hT11
  refine hu.mono fun e w8 ⟨he, hT12⟩ => ⟨he, by rw [hz], { R with ws := R.ws.set i.toNat ⟨g5, c5, (R.ws[i.toNat]).l ++ [s]⟩, sp := R.sp.set i.toNat false, left := if R.cut then IntKind.i64.wrap (R.left - 1) else R.left }, rfl, ?_, hT12⟩
  rw [AD.write_of hz]
  refine ⟨hA.n1, hA.safe, by show (R.ws.set _ _).length = _; rw [List.length_set, hA.wl], fun j e he => ?_, by show (R.sp.set _ _).length = _; rw [List.length_set, hA.pl], fun j b he => ?_, hA.dead, hA.left (AD.may_on hm).1⟩
  · have h2 : (R.ws.set i.toNat ⟨g5, c5, (R.ws[i.toNat]).l ++ [s]⟩)[j]? = some e := he
    show e.l = if j = i.toNat then a.pend j ++ [s] else a.pend j
    by_cases hj : j = i.toNat
    · subst hj
      rw [List.getElem?_set_self hw] at h2
      rw [if_pos rfl, ← hws]
      exact (congrArg RW.l (Option.some.inj h2)).symm
    · rw [List.getElem?_set_ne (fun h => hj h.symm)] at h2
      rw [if_neg hj]
      exact hA.ws j e h2
  · have h2 : (R.sp.set i.toNat false)[j]? = some b := he
    show b = if j = i.toNat then false else a.spoilt j
    by_cases hj : j = i.toNat
    · subst hj
      rw [List.getElem?_set_self hp] at h2
      rw [if_pos rfl]
      exact (Option.some.inj h2).symm
    · rw [List.getElem?_set_ne (fun h => hj h.symm)] at h2
      rw [if_neg hj]
      exact hA.sp j b h2
end Go.Proofs.Ytdppllkjibfjcaa
end
section
/-! the reference's drive: what turns, on. -/
namespace Go.Proofs.Ytdppllkjibfjcaa
open Go.Sh Go.Maps Go.RowKit
set_option linter.unusedVariables false
set_option maxHeartbeats 1000000
set_option maxRecDepth 20000
theorem setSafe {R : RL} {F : List Nat} {w0 w : World} {X : List A} {i : Nat} {s : ByteArray} {K : World → Prop} (hT : T F w0 w (refL R ++ X)) (hi : i < R.safe.length) (hK : ∀ w', T F w0 w' (refL { R with safe := R.safe.set i s } ++ X) → K w') :
    ∃ b, R.gs = some b ∧ St (Addr.add ⟨b, 0, none⟩ (i * 1)) (.string s) w K := by
  obtain ⟨b, hb⟩ := rowP.pos (hT.says (show rowP 9 1 R.gs R.safe.length R.cs (R.safe.map .string) ∈ _ from (by repeat (first | exact List.Mem.head _ | refine List.Mem.tail _ ?_)))) (by omega)
  refine ⟨b, hb, ?_⟩
  have e0 : refL R = blk R.p #[.slice (ptr R.gs) R.safe.length R.cs, .slice (ptr R.gw) R.ws.length R.cw, .slice (ptr R.gp) R.sp.length R.cp, .bool R.gone, .bool R.cut, .int .i64 R.left] 48 :: rowP 9 1 (some b) R.safe.length R.cs (R.safe.map .string) :: ((hdr R).drop 2 ++ R.ws.map RW.row) := by rw [← hb]; rfl
  rw [e0] at hT
  refine StRow1.t hT (.tail .head) (by rw [List.length_map]; exact hi) rfl fun w' h => hK w' ?_
  have e1 : refL { R with safe := R.safe.set i s } = blk R.p #[.slice (ptr R.gs) R.safe.length R.cs, .slice (ptr R.gw) R.ws.length R.cw, .slice (ptr R.gp) R.sp.length R.cp, .bool R.gone, .bool R.cut, .int .i64 R.left] 48 :: rowP 9 1 (some b) R.safe.length R.cs ((R.safe.map .string).set i (.string s)) :: ((hdr R).drop 2 ++ R.ws.map RW.row) := by
    rw [← hb]; simp only [refL, hdr, List.length_set, List.map_set]; rfl
  rw [e1]
  exact h.swap (.swap _ _ _)
theorem setSp {R : RL} {F : List Nat} {w0 w : World} {X : List A} {i : Nat} {v : Bool} {K : World → Prop} (hT : T F w0 w (refL R ++ X)) (hi : i < R.sp.length) (hK : ∀ w', T F w0 w' (refL { R with sp := R.sp.set i v } ++ X) → K w') :
    ∃ b, R.gp = some b ∧ St (Addr.add ⟨b, 0, none⟩ (i * 1)) (.bool v) w K := by
  obtain ⟨b, hb⟩ := rowP.pos (hT.says (show rowP 4 1 R.gp R.sp.length R.cp (R.sp.map .bool) ∈ _ from (by repeat (first | exact List.Mem.head _ | refine List.Mem.tail _ ?_)))) (by omega)
  refine ⟨b, hb, ?_⟩
  have e0 : refL R = (hdr R).take 3 ++ rowP 4 1 (some b) R.sp.length R.cp (R.sp.map .bool) :: R.ws.map RW.row := by rw [← hb]; rfl
  rw [e0] at hT
  refine StRow1.t hT (.tail (.tail (.tail .head))) (by rw [List.length_map]; exact hi) rfl fun w' h => hK w' ?_
  have e1 : refL { R with sp := R.sp.set i v } = (hdr R).take 3 ++ rowP 4 1 (some b) R.sp.length R.cp ((R.sp.map .bool).set i (.bool v)) :: R.ws.map RW.row := by
    rw [← hb]; simp only [refL, hdr, List.length_set, List.map_set]; rfl
  rw [e1]
  refine h.swap ?_
  rw [List.append_assoc]
  exact (List.perm_middle (l₁ := (hdr R).take 3)).symm
theorem setNil {R : RL} {F : List Nat} {w0 w : World} {X : List A} {i : Nat} {K : World → Prop} (hT : T F w0 w (refL R ++ X)) (hi : i < R.ws.length) (hK : ∀ w', T F w0 w' (refL { R with ws := R.ws.set i ⟨none, 0, []⟩ } ++ X) → K w') :
    ∃ b, R.gw = some b ∧ St (Addr.add ⟨b, 0, none⟩ (i * 1)) (.slice none 0 0) w K := by
  obtain ⟨b, hb⟩ := rowP.pos (hT.says (show rowP 22 1 R.gw R.ws.length R.cw (R.ws.map RW.val) ∈ _ from (by repeat (first | exact List.Mem.head _ | refine List.Mem.tail _ ?_)))) (by omega)
  refine ⟨b, hb, ?_⟩
  have hj := ws_join hi ⟨none, 0, []⟩
  have hs := ws_split hi
  generalize hrest : (R.ws.take i ++ R.ws.drop (i + 1)).map RW.row = rest at hj hs
  have e0 : refL R = (hdr R).take 2 ++ rowP 22 1 (some b) R.ws.length R.cw (R.ws.map RW.val) :: rowP 4 1 R.gp R.sp.length R.cp (R.sp.map .bool) :: R.ws.map RW.row := by rw [← hb]; rfl
  rw [e0] at hT
  refine StRow1.t hT (.tail (.tail .head)) (by rw [List.length_map]; exact hi) rfl fun w' h => hK w' ?_
  have e1 : refL { R with ws := R.ws.set i ⟨none, 0, []⟩ } = (hdr R).take 2 ++ rowP 22 1 (some b) R.ws.length R.cw ((R.ws.map RW.val).set i (.slice none 0 0)) :: rowP 4 1 R.gp R.sp.length R.cp (R.sp.map .bool) :: (R.ws.set i ⟨none, 0, []⟩).map RW.row := by
    rw [← hb]; simp only [refL, hdr, List.length_set, List.map_set]; rfl
  rw [e1]
  have h2 : T F w0 w' ((R.ws[i]).row :: (rowP 22 1 (some b) R.ws.length R.cw ((R.ws.map RW.val).set i (.slice none 0 0)) :: ((hdr R).take 2 ++ rowP 4 1 R.gp R.sp.length R.cp (R.sp.map .bool) :: (rest ++ X)))) := by
    refine h.swap ?_
    have h3 : (R.ws.map RW.row ++ X).Perm ((R.ws[i]).row :: (rest ++ X)) := hs.append_right X
    have h4 := h3.append_left (rowP 22 1 (some b) R.ws.length R.cw ((R.ws.map RW.val).set i (.slice none 0 0)) :: ((hdr R).take 2 ++ [rowP 4 1 R.gp R.sp.length R.cp (R.sp.map .bool)]))
    exact h4.trans List.perm_middle
  have h5 := nil_row (T.drop h2)
  refine h5.swap ?_
  have h6 : ((RW.row ⟨none, 0, []⟩ :: rest) ++ X).Perm ((R.ws.set i ⟨none, 0, []⟩).map RW.row ++ X) := hj.append_right X
  have h7 := h6.append_left ((hdr R).take 2 ++ [rowP 22 1 (some b) R.ws.length R.cw ((R.ws.map RW.val).set i (.slice none 0 0)), rowP 4 1 R.gp R.sp.length R.cp (R.sp.map .bool)])
  refine List.Perm.trans ?_ h7
  have h8 : (RW.row ⟨none, 0, []⟩ :: (rowP 22 1 (some b) R.ws.length R.cw ((R.ws.map RW.val).set i (.slice none 0 0)) :: ((hdr R).take 2 ++ rowP 4 1 R.gp R.sp.length R.cp (R.sp.map .bool) :: (rest ++ X)))).Perm
      (RW.row ⟨none, 0, []⟩ :: ((hdr R).take 2 ++ [rowP 22 1 (some b) R.ws.length R.cw ((R.ws.map RW.val).set i (.slice none 0 0)), rowP 4 1 R.gp R.sp.length R.cp (R.sp.map .bool)] ++ (rest ++ X))) := by
    refine List.Perm.cons _ ?_
    rw [List.append_assoc]
    exact (List.perm_middle (l₁ := (hdr R).take 2)).symm
  exact h8.trans List.perm_middle.symm
/-- one sector is settled: n of its writes are kept -/
def keepA (a : AD) (i n : Nat) : AD := { a with safe := if 0 < n then a.safe.set i ((a.pend i).getD (n - 1) noB) else a.safe, pend := fun j => if j = i then [] else a.pend j }
theorem keep_abs {R : RL} {a : AD} (hA : RAbs R a) {i n : Nat} (hi : i < a.safe.length) {safe' : List ByteArray} (hs : safe' = if 0 < n then a.safe.set i ((a.pend i).getD (n - 1) noB) else a.safe) : RAbs { R with safe := safe', ws := R.ws.set i ⟨none, 0, []⟩ } (keepA a i n) := by
  have hl : (keepA a i n).safe.length = a.safe.length := by
    unfold keepA
    simp only
    split
    · rw [List.length_set]
    · rfl
  refine ⟨by rw [hl]; exact hA.n1, hs, ?_, fun j e he => ?_, by rw [hl]; exact hA.pl, hA.sp, hA.dead, hA.power⟩
  · show (R.ws.set i ⟨none, 0, []⟩).length = _
    rw [List.length_set, hl]; exact hA.wl
  · have h2 : (R.ws.set i ⟨none, 0, []⟩)[j]? = some e := he
    show e.l = if j = i then [] else a.pend j
    by_cases hj : j = i
    · subst hj
      rw [List.getElem?_set_self (by rw [hA.wl]; exact hi)] at h2
      rw [if_pos rfl]
      exact (congrArg RW.l (Option.some.inj h2)).symm
    · rw [List.getElem?_set_ne (fun h => hj h.symm)] at h2
      rw [if_neg hj]
      exact hA.ws j e h2
theorem rkeep_r {p : Nat} {a : AD} {F : List Nat} {w0 w : World} {X : List A} (h : Rf p a F w0 w X) (hF : a.Few 1000000) {i n : Nat} (hi : i < a.safe.length) (hn : n ≤ (a.pend i).length) :
    Calls Try.prog 54 #[.pointer (some ⟨p, 0, none⟩), .int .i64 i, .int .i64 n] w fun e w' => e = .returned (.tuple #[]) ∧ Rf p (keepA a i n) F w0 w' X := by
  obtain ⟨R, rfl, hA, hT⟩ := h
  refine (revetmentref04_Drive_keep_calls (R := fun v w' => v = .tuple #[] ∧ Rf R.p (keepA a i n) F w0 w' X) ?_).mono fun e w' ⟨v, he, hv, ht⟩ => ⟨hv ▸ he, ht⟩
  unfold revetmentref04_Drive_keep
  have hw : i < R.ws.length := by rw [hA.wl]; exact hi
  have hs : i < R.safe.length := by rw [hA.safe]; exact hi
  have hws := hA.ws i _ (List.getElem?_eq_getElem hw)
  refine Join.intro fun J hJ => ?_
  have fin : ∀ (safe' : List ByteArray) (w1 : World), safe'.length = R.safe.length → T F w0 w1 (refL { R with safe := safe' } ++ X) → (safe' = if 0 < n then a.safe.set i ((a.pend i).getD (n - 1) noB) else a.safe) → J [] w1 := by
    intro safe' w1 hl hT1 hs'
    refine hJ _ _ ⟨rfl, _, rfl, ?_⟩
    obtain ⟨b, hb, hst⟩ := setNil (R := { R with safe := safe' }) (i := i) hT1 hw fun w' hT2 => (⟨rfl, { R with safe := safe', ws := R.ws.set i ⟨none, 0, []⟩ }, rfl, keep_abs hA hi hs', hT2⟩ : Value.tuple #[] = Value.tuple #[] ∧ Rf R.p (keepA a i n) F w0 w' X)
    have hb : R.gw = some b := hb
    refine ⟨_, _, _, hT1.ldA (by repeat (first | exact List.Mem.head _ | refine List.Mem.tail _ ?_)) rfl, _, (by show ptr R.gw = _; rw [hb]; rfl), by omega, by show (i : Int) < (R.ws.length : Int); omega, ?_⟩
    exact hst
  refine ⟨dec_t fun hpos => ?_, dec_f fun hz => fin R.safe w rfl hT (by rw [if_neg (by omega), hA.safe])⟩
  have hfl := hF i
  have w1' : IntKind.i64.wrap ((n : Int) - 1) = ((n - 1 : Nat) : Int) := by rw [wrap64 _ (by omega) (by omega)]; omega
  rw [w1']
  have hlt : n - 1 < (R.ws[i]).l.length := by rw [hws]; omega
  have hTd := hT.drew
  have hmem : (R.ws[i]).row ∈ refL R ++ X := List.mem_append_left _ (List.mem_append_right _ (List.mem_map_of_mem (List.getElem_mem hw)))
  obtain ⟨b1, hb1, _⟩ := T.row1 (i := i) (v := (R.ws[i]).val) hTd (show rowP 22 1 R.gw R.ws.length R.cw (R.ws.map RW.val) ∈ _ from (by repeat (first | exact List.Mem.head _ | refine List.Mem.tail _ ?_))) (by rw [List.getElem?_map, List.getElem?_eq_getElem hw]; rfl)
  obtain ⟨b2, hb2, _⟩ := T.row1 (i := n - 1) (v := .string (R.ws[i]).l[n - 1]) hTd (show rowP 9 1 (R.ws[i]).g (R.ws[i]).l.length (R.ws[i]).cap ((R.ws[i]).l.map .string) ∈ _ from hmem) (by rw [List.getElem?_map, List.getElem?_eq_getElem hlt]; rfl)
  obtain ⟨b3, hb3, hst⟩ := setSafe (i := i) (s := (R.ws[i]).l[n - 1]) (K := fun w3 => J [] w3) hTd hs fun w' hT2 => fin _ w' (by rw [List.length_set]) hT2 (by
    rw [if_pos (by omega), ← hA.safe]
    congr 1
    rw [← hws, List.getD_eq_getElem?_getD, List.getElem?_eq_getElem hlt]; rfl)
  refine ⟨fun w => T F w0 w (refL R ++ X), hTd, _, rfl, _, _, _, fun w h => h.ld (by repeat (first | exact List.Mem.head _ | refine List.Mem.tail _ ?_)) rfl, _, rfl, _, _, _, fun w h => h.ldA (by repeat (first | exact List.Mem.head _ | refine List.Mem.tail _ ?_)) rfl, _, by rw [hb1]; rfl, by omega, by omega, ptr (R.ws[i]).g, (R.ws[i]).l.length, (R.ws[i]).cap, fun w h => ?_, _, by rw [hb2]; rfl, by omega, by omega, _, fun w h => ?_, _, by rw [hb3]; rfl, by omega, by omega, hst⟩
  · obtain ⟨b4, hb4, hc⟩ := T.row1 (i := i) (v := (R.ws[i]).val) h (show rowP 22 1 R.gw R.ws.length R.cw (R.ws.map RW.val) ∈ _ from (by repeat (first | exact List.Mem.head _ | refine List.Mem.tail _ ?_))) (by rw [List.getElem?_map, List.getElem?_eq_getElem hw]; rfl)
    rw [hb1] at hb4; cases hb4
    exact hc
  · obtain ⟨b4, hb4, hc⟩ := T.row1 (i := n - 1) (v := .string (R.ws[i]).l[n - 1]) h (show rowP 9 1 (R.ws[i]).g (R.ws[i]).l.length (R.ws[i]).cap ((R.ws[i]).l.map .string) ∈ _ from hmem) (by rw [List.getElem?_map, List.getElem?_eq_getElem hlt]; rfl)
    rw [hb2] at hb4; cases hb4
    exact hc
theorem rspoil_r {p : Nat} {a : AD} {F : List Nat} {w0 w : World} {X : List A} (h : Rf p a F w0 w X) (i : Int) :
    Calls Try.prog 41 #[.pointer (some ⟨p, 0, none⟩), .int .i64 i] w fun e w' => e = .returned (.int .i64 (a.may i)) ∧ Rf p (a.spoil i) F w0 w' X := by
  have h0 := h
  obtain ⟨R, rfl, hA, hT⟩ := h
  refine (revetmentref04_Drive_Spoil_calls (R := fun v w' => v = .int .i64 (a.may i) ∧ Rf R.p (a.spoil i) F w0 w' X) ?_).mono fun e w' ⟨v, he, hv, ht⟩ => ⟨hv ▸ he, ht⟩
  unfold revetmentref04_Drive_Spoil
  refine (rmay_r h0 i).mono fun e w1 ⟨he, hx⟩ => ⟨_, he, beq_t fun hm => ?_, beq_f fun hm => ⟨rfl, ?_⟩⟩
  · have hi := AD.may_zero hm
    have hp : i.toNat < R.sp.length := by rw [hA.pl]; omega
    have hT1 := hT.quiet hx
    have ha : a.spoil i = { a with spoilt := fun j => if j = i.toNat then true else a.spoilt j } := by unfold AD.spoil; rw [if_neg (by simpa using hm)]
    obtain ⟨b, hb, hst⟩ := setSp (i := i.toNat) (v := true) hT1 hp fun w' hT2 => (⟨rfl, { R with sp := R.sp.set i.toNat true }, rfl, by
      rw [ha]
      refine ⟨hA.n1, hA.safe, hA.wl, hA.ws, by show (R.sp.set _ _).length = _; rw [List.length_set]; exact hA.pl, fun j x hx => ?_, hA.dead, hA.power⟩
      have h2 : (R.sp.set i.toNat true)[j]? = some x := hx
      show x = if j = i.toNat then true else a.spoilt j
      by_cases hj : j = i.toNat
      · subst hj
        rw [List.getElem?_set_self hp] at h2
        rw [if_pos rfl]
        exact (Option.some.inj h2).symm
      · rw [List.getElem?_set_ne (fun h => hj h.symm)] at h2
        rw [if_neg hj]
        exact hA.sp j x h2, hT2⟩ : Value.int .i64 (a.may i) = Value.int .i64 (a.may i) ∧ Rf R.p (a.spoil i) F w0 w' X)
    exact ⟨_, rfl, _, _, _, hT1.ldA (by repeat (first | exact List.Mem.head _ | refine List.Mem.tail _ ?_)) rfl, _, by rw [hb]; rfl, by omega, by omega, hst⟩
  · unfold AD.spoil
    rw [if_pos hm]
    exact h0.quiet hx
theorem rchange_r {p : Nat} {a : AD} {F : List Nat} {w0 w : World} {X : List A} (h : Rf p a F w0 w X) (i : Int) (s : ByteArray) :
    Calls Try.prog 56 #[.pointer (some ⟨p, 0, none⟩), .int .i64 i, .string s] w fun e w' => e = .returned (.int .i64 (a.put i s)) ∧ Rf p (a.change i s) F w0 w' X := by
  have h0 := h
  obtain ⟨R, rfl, hA, hT⟩ := h
  refine (revetmentref04_Drive_Change_calls (R := fun v w' => v = .int .i64 (a.put i s) ∧ Rf R.p (a.change i s) F w0 w' X) ?_).mono fun e w' ⟨v, he, hv, ht⟩ => ⟨hv ▸ he, ht⟩
  unfold revetmentref04_Drive_Change
  have fail : ∀ n, a.put i s = n → n ≠ 0 → ∀ w1, Ext w w1 → Value.int .i64 n = .int .i64 (a.put i s) ∧ Rf R.p (a.change i s) F w0 w1 X := fun n hn h1 w1 hx => by
    refine ⟨by rw [hn], ?_⟩
    unfold AD.change
    rw [if_pos (by rw [hn]; exact h1)]
    exact h0.quiet hx
  refine (rmay_r h0 i).mono fun e w1 ⟨he, hx⟩ => ⟨_, he, bne_t fun hm => fail _ (by unfold AD.put; rw [if_pos hm]) hm _ hx, bne_f fun hm => ⟨bne_t fun hs => fail 1 (by unfold AD.put; rw [if_neg (by simpa using hm), if_pos (by omega)]) (by decide) _ hx, bne_f fun hs => ?_⟩⟩
  have hz : a.put i s = 0 := by unfold AD.put; rw [if_neg (by simpa using hm), if_neg (by omega)]
  have hi := AD.may_zero hm
  have hw : i.toNat < R.ws.length := by rw [hA.wl]; omega
  have hsl : i.toNat < R.safe.length := by rw [hA.safe]; omega
  have hT1 := hT.quiet hx
  have ha : a.change i s = { a with safe := a.safe.set i.toNat s, pend := fun j => if j = i.toNat then [] else a.pend j } := AD.change_of hz
  have last : ∀ w2, T F w0 w2 (refL { R with safe := R.safe.set i.toNat s } ++ X) → ∃ a25 : Addr, some (⟨R.p, 0, none⟩ : Addr) = some a25 ∧ ∃ (p27 : Option Addr) (l27 c27 : Nat), w2.cell? (a25.add 1) = some (.slice p27 l27 c27) ∧
      ∃ a29 : Addr, p27 = some a29 ∧ (0 : Int) ≤ i ∧ i < (l27 : Int) ∧ St (Addr.add a29 (i.toNat * 1)) (.slice none 0 0) w2 fun w3 => Value.int .i64 0 = .int .i64 (a.put i s) ∧ Rf R.p (a.change i s) F w0 w3 X := by
    intro w2 hT2
    obtain ⟨b, hb, hst⟩ := setNil (R := { R with safe := R.safe.set i.toNat s }) (i := i.toNat) hT2 hw fun w' hT3 => (⟨by rw [hz], { R with safe := R.safe.set i.toNat s, ws := R.ws.set i.toNat ⟨none, 0, []⟩ }, rfl, by
      rw [ha]
      refine ⟨by show (a.safe.set _ _).length ≤ _; rw [List.length_set]; exact hA.n1, by show R.safe.set _ _ = _; rw [hA.safe], by show (R.ws.set _ _).length = (a.safe.set _ _).length; rw [List.length_set, List.length_set]; exact hA.wl, fun j e he => ?_, by show _ = (a.safe.set _ _).length; rw [List.length_set]; exact hA.pl, hA.sp, hA.dead, hA.power⟩
      have h2 : (R.ws.set i.toNat ⟨none, 0, []⟩)[j]? = some e := he
      show e.l = if j = i.toNat then [] else a.pend j
      by_cases hj : j = i.toNat
      · subst hj
        rw [List.getElem?_set_self hw] at h2
        rw [if_pos rfl]
        exact (congrArg RW.l (Option.some.inj h2)).symm
      · rw [List.getElem?_set_ne (fun h => hj h.symm)] at h2
        rw [if_neg hj]
        exact hA.ws j e h2, hT3⟩ : Value.int .i64 0 = .int .i64 (a.put i s) ∧ Rf R.p (a.change i s) F w0 w' X)
    have hb : R.gw = some b := hb
    exact ⟨_, rfl, _, _, _, hT2.ldA (by repeat (first | exact List.Mem.head _ | refine List.Mem.tail _ ?_)) rfl, _, (by show ptr R.gw = _; rw [hb]; rfl), by omega, by show i < (R.ws.length : Int); omega, hst⟩
  obtain ⟨b, hb, hst⟩ := setSafe (i := i.toNat) (s := s) hT1 hsl last
  exact ⟨_, rfl, _, _, _, hT1.ld (by repeat (first | exact List.Mem.head _ | refine List.Mem.tail _ ?_)) rfl, _, by rw [hb]; rfl, by omega, by omega, hst⟩
end Go.Proofs.Ytdppllkjibfjcaa
end
section
/-! the reference's drive: Flush, Crash, Off, New. -/
namespace Go.Proofs.Ytdppllkjibfjcaa
open Go.Sh Go.Maps Go.RowKit
set_option linter.unusedVariables false
set_option maxHeartbeats 1000000
set_option maxRecDepth 20000
def cnt (pend : Nat → List ByteArray) : Nat → Nat → Nat
  | _, 0 => 0
  | i, n + 1 => (if pend i = [] then 0 else 1) + cnt pend (i + 1) n
theorem cnt_snoc (pend : Nat → List ByteArray) : ∀ (n i : Nat), cnt pend i (n + 1) = cnt pend i n + if pend (i + n) = [] then 0 else 1
  | 0, i => by simp [cnt]
  | n + 1, i => by
    have h := cnt_snoc pend n (i + 1)
    rw [show i + 1 + n = i + (n + 1) by omega] at h
    show (if pend i = [] then 0 else 1) + cnt pend (i + 1) (n + 1) = (if pend i = [] then 0 else 1) + cnt pend (i + 1) n + _
    rw [h]
    omega
theorem cnt_le (pend : Nat → List ByteArray) : ∀ (n i : Nat), cnt pend i n ≤ n
  | 0, i => Nat.le_refl _
  | n + 1, i => by
    have h := cnt_le pend n (i + 1)
    show (if pend i = [] then 0 else 1) + cnt pend (i + 1) n ≤ n + 1
    split <;> omega
theorem keptFrom_snoc (g : Nat → Nat → Nat) (pend : Nat → List ByteArray) (s : ByteArray) : ∀ (l : List ByteArray) (i k : Nat),
    keptFrom g pend i k (l ++ [s]) = keptFrom g pend i k l ++ [if pend (i + l.length) = [] then s else if 0 < g (k + cnt pend i l.length) (pend (i + l.length)).length then (pend (i + l.length)).getD (g (k + cnt pend i l.length) (pend (i + l.length)).length - 1) noB else s]
  | [], i, k => by
    simp only [List.nil_append, keptFrom, List.length_nil, Nat.add_zero, cnt]
    split <;> rfl
  | x :: l, i, k => by
    have h1 := keptFrom_snoc g pend s l (i + 1) k
    have h2 := keptFrom_snoc g pend s l (i + 1) (k + 1)
    rw [show i + 1 + l.length = i + (x :: l).length by simp; omega] at h1 h2
    simp only [List.cons_append, keptFrom]
    have hc : cnt pend i (x :: l).length = (if pend i = [] then 0 else 1) + cnt pend (i + 1) l.length := rfl
    by_cases hp : pend i = []
    · rw [if_pos hp, if_pos hp, h1, hc, if_pos hp, Nat.zero_add]; rfl
    · rw [if_neg hp, if_neg hp, h2, hc, if_neg hp, show k + 1 + cnt pend (i + 1) l.length = k + (1 + cnt pend (i + 1) l.length) by omega]; rfl
/-- the first i sectors are settled -/
def AD.part (a : AD) (g : Nat → Nat → Nat) (i : Nat) : AD := { a with safe := keptFrom g a.pend 0 0 (a.safe.take i) ++ a.safe.drop i, pend := fun j => if j < i then [] else a.pend j }
theorem part_zero (a : AD) (g : Nat → Nat → Nat) : a.part g 0 = a := by
  unfold AD.part
  simp [keptFrom]
theorem part_len (a : AD) (g : Nat → Nat → Nat) (i : Nat) : (a.part g i).safe.length = a.safe.length := by
  simp [AD.part, keptFrom_len]; omega
theorem part_step (a : AD) (g : Nat → Nat → Nat) {i : Nat} (hi : i < a.safe.length) : a.part g (i + 1) = keepA (a.part g i) i (if a.pend i = [] then 0 else g (cnt a.pend 0 i) (a.pend i).length) := by
  have hpi : (a.part g i).pend i = a.pend i := by simp [AD.part]
  have hpend : (fun j => if j < i + 1 then [] else a.pend j) = fun j => if j = i then ([] : List ByteArray) else if j < i then [] else a.pend j := by
    funext j
    by_cases h1 : j = i
    · subst h1; simp
    · by_cases h2 : j < i
      · rw [if_pos (by omega), if_neg h1, if_pos h2]
      · rw [if_neg (by omega), if_neg h1, if_neg h2]
  have htake : a.safe.take (i + 1) = a.safe.take i ++ [a.safe[i]] := by rw [List.take_add_one, List.getElem?_eq_getElem hi]; rfl
  have hdrop : a.safe.drop i = a.safe[i] :: a.safe.drop (i + 1) := by rw [List.drop_eq_getElem_cons hi]
  have hlt : (a.safe.take i).length = i := by rw [List.length_take]; omega
  have hkl : (keptFrom g a.pend 0 0 (a.safe.take i)).length = i := by rw [keptFrom_len, hlt]
  have hsafe : keptFrom g a.pend 0 0 (a.safe.take (i + 1)) ++ a.safe.drop (i + 1) = if 0 < (if a.pend i = [] then 0 else g (cnt a.pend 0 i) (a.pend i).length) then (keptFrom g a.pend 0 0 (a.safe.take i) ++ a.safe.drop i).set i ((a.pend i).getD ((if a.pend i = [] then 0 else g (cnt a.pend 0 i) (a.pend i).length) - 1) noB) else keptFrom g a.pend 0 0 (a.safe.take i) ++ a.safe.drop i := by
    rw [htake, keptFrom_snoc, hlt, Nat.zero_add, Nat.zero_add, hdrop, List.append_assoc]
    by_cases hp : a.pend i = []
    · simp only [hp, if_true, Nat.lt_irrefl, if_false]; rfl
    · simp only [hp, if_false]
      split
      · rw [List.set_append_right _ _ (by omega), hkl, Nat.sub_self, List.set_cons_zero]; rfl
      · rfl
  unfold keepA
  rw [hpi]
  show AD.mk _ _ _ _ _ = AD.mk _ _ _ _ _
  rw [hpend, hsafe]
  rfl
theorem part_skip (a : AD) (g : Nat → Nat → Nat) {i : Nat} (hi : i < a.safe.length) (hp : a.pend i = []) : a.part g (i + 1) = a.part g i := by
  rw [part_step a g hi, if_pos hp]
  unfold keepA
  have : (fun j => if j = i then [] else (a.part g i).pend j) = (a.part g i).pend := by
    funext j
    by_cases h1 : j = i
    · subst h1; simp [AD.part, hp]
    · rw [if_neg h1]
  rw [this]
  simp
theorem part_end {R : RL} {a : AD} {g : Nat → Nat → Nat} (h : RAbs R (a.part g a.safe.length)) : RAbs R (a.settle g) := by
  have hs : (a.part g a.safe.length).safe = keptFrom g a.pend 0 0 a.safe := by simp [AD.part]
  have hl : (a.settle g).safe.length = a.safe.length := by show (keptFrom g a.pend 0 0 a.safe).length = _; rw [keptFrom_len]
  have hw := h.wl
  have hpl := h.pl
  rw [part_len] at hw hpl
  refine ⟨by rw [hl, ← part_len a g a.safe.length]; exact h.n1, by rw [h.safe, hs]; rfl, by rw [hl]; exact hw, fun j e he => ?_, by rw [hl]; exact hpl, h.sp, h.dead, h.power⟩
  have hj := (List.getElem?_eq_some_iff.1 he).1
  rw [h.ws j e he]
  show (if j < a.safe.length then [] else a.pend j) = []
  rw [if_pos (by omega)]
theorem part_few {a : AD} {N : Nat} (h : a.Few N) (g : Nat → Nat → Nat) (i : Nat) : (a.part g i).Few N := by
  intro j
  show (if j < i then [] else a.pend j).length ≤ N
  split
  · exact Nat.zero_le _
  · exact h j
theorem rflush_r {p : Nat} {a : AD} {F : List Nat} {w0 w : World} {X : List A} (h : Rf p a F w0 w X) (hF : a.Few 1000000) :
    Calls Try.prog 27 #[.pointer (some ⟨p, 0, none⟩)] w fun e w' => e = .returned (.int .i64 a.flush1) ∧ Rf p a.flush F w0 w' X := by
  have h0 := h
  obtain ⟨R, rfl, hA, hT⟩ := h
  refine (revetmentref04_Drive_Flush_calls (R := fun v w' => v = .int .i64 a.flush1 ∧ Rf R.p a.flush F w0 w' X) ?_).mono fun e w' ⟨v, he, hv, ht⟩ => ⟨hv ▸ he, ht⟩
  unfold revetmentref04_Drive_Flush
  have hd := hA.dead
  have fail : ∀ n, a.flush1 = n → n ≠ 0 → ∀ w1, Ext w w1 → Value.int .i64 n = .int .i64 a.flush1 ∧ Rf R.p a.flush F w0 w1 X := fun n hn h1 w1 hx => by
    refine ⟨by rw [hn], ?_⟩
    unfold AD.flush
    rw [if_pos (by rw [hn]; exact h1)]
    exact h0.quiet hx
  refine ⟨_, rfl, _, hT.ldA (by repeat (first | exact List.Mem.head _ | refine List.Mem.tail _ ?_)) rfl, fun hc => fail 40 (by unfold AD.flush1; rw [if_pos (by rw [← hd]; exact hc)]) (by decide) _ (.refl w), fun hc => ?_⟩
  have hnd : ¬ a.dead = true := by rw [← hd, hc]; simp
  refine (roff_r h0).mono fun e w1 ⟨he, hx⟩ => ⟨_, he, fun ho => fail 42 (by unfold AD.flush1; rw [if_neg hnd, if_pos ho]) (by decide) _ hx, fun ho => ?_⟩
  have hz : a.flush1 = 0 := by unfold AD.flush1; rw [if_neg hnd, if_neg (by rw [ho]; simp)]
  refine (ruse_r (hT.quiet hx)).mono fun e w2 ⟨he, hT2⟩ => ⟨he, ?_⟩
  have hA1 : RAbs { R with left := if R.cut then IntKind.i64.wrap (R.left - 1) else R.left } { a with power := a.power.map (· - 1) } := ⟨hA.n1, hA.safe, hA.wl, hA.ws, hA.pl, hA.sp, hA.dead, hA.left ho⟩
  have h2 : Rf R.p { a with power := a.power.map (· - 1) } F w0 w2 X := ⟨{ R with left := if R.cut then IntKind.i64.wrap (R.left - 1) else R.left }, rfl, hA1, hT2⟩
  rw [hz, AD.flush_of hz]
  have hF1 : ({ a with power := a.power.map (· - 1) } : AD).Few 1000000 := hF
  generalize ({ a with power := a.power.map (· - 1) } : AD) = b at h2 hF1
  clear hA1 hT2 hA hT
  refine ⟨fun vs w' => ∃ i : Nat, vs = [.int .i64 i] ∧ i ≤ b.safe.length ∧ b.safe.length ≤ 4096 ∧ Rf R.p (b.part (fun _ m => m) i) F w0 w' X, fun vs _ => match vs with | [.int _ i] => (5000 - i).toNat | _ => 0, ⟨0, rfl, by omega, (by obtain ⟨_, _, hA, _⟩ := h2; exact hA.n1), by rw [part_zero]; exact h2⟩, ?_⟩
  rintro vs w3 ⟨i, rfl, hib, hn1, hR⟩
  have hR0 := hR
  obtain ⟨R3, hp3, hA3, hT3⟩ := hR
  have hwl := hA3.wl
  rw [part_len] at hwl
  refine ⟨_, rfl, ⟨R3.p, 0, none⟩, by rw [hp3], _, _, _, hT3.ldA (by repeat (first | exact List.Mem.head _ | refine List.Mem.tail _ ?_)) rfl, dec_t fun hlt => ?_, dec_f fun hge => ⟨rfl, R3, hp3, ?_, hT3⟩⟩
  · have hi : i < b.safe.length := by omega
    have hw : i < R3.ws.length := by omega
    obtain ⟨q, hq, hc⟩ := T.row1 (i := i) (v := (R3.ws[i]).val) hT3 (show rowP 22 1 R3.gw R3.ws.length R3.cw (R3.ws.map RW.val) ∈ _ from (by repeat (first | exact List.Mem.head _ | refine List.Mem.tail _ ?_))) (by rw [List.getElem?_map, List.getElem?_eq_getElem hw]; rfl)
    have hws := hA3.ws i _ (List.getElem?_eq_getElem hw)
    have hpi : (b.part (fun _ m => m) i).pend i = b.pend i := by simp [AD.part]
    rw [hpi] at hws
    refine ⟨⟨R3.p, 0, none⟩, by rw [hp3], _, _, _, hT3.ldA (by repeat (first | exact List.Mem.head _ | refine List.Mem.tail _ ?_)) (by rw [hq]; rfl), _, rfl, by omega, by omega, _, _, _, hc, ?_⟩
    have hk := rkeep_r hR0 (part_few hF1 _ i) (i := i) (n := (b.pend i).length) (by rw [part_len]; exact hi) (by rw [hpi]; exact Nat.le_refl _)
    rw [hws]
    refine hk.mono fun e w4 ⟨he, h4⟩ => ⟨he, ⟨i + 1, by rw [wrap64 _ (by omega) (by omega)]; rfl, by omega, hn1, ?_⟩, ?_⟩
    · rw [part_step b _ hi]
      have : (if b.pend i = [] then 0 else (fun _ m => m) (cnt b.pend 0 i) (b.pend i).length) = (b.pend i).length := by
        split
        · rename_i h; rw [h]; rfl
        · rfl
      rw [this]
      exact h4
    · show ((5000 : Int) - IntKind.i64.wrap ((i : Int) + 1)).toNat < ((5000 : Int) - (i : Int)).toNat
      rw [wrap64 _ (by omega) (by omega)]; omega
  · have hi : i = b.safe.length := by omega
    rw [hi] at hA3
    exact part_end hA3
theorem rcrash_r {p : Nat} {a : AD} {F : List Nat} {w0 w : World} {X : List A} (h : Rf p a F w0 w X) (hF : a.Few 1000000) (keep : List UInt8) (q : Option Addr) (c : Nat) (hkl : keep.length ≤ 1000000)
    (hk : ∀ w1, T F w0 w1 X → bytesAt w1 q keep) :
    Calls Try.prog 42 #[.pointer (some ⟨p, 0, none⟩), .slice q keep.length c] w fun e w' => e = .returned (.tuple #[]) ∧ Rf p (a.crash keep) F w0 w' X := by
  obtain ⟨R, rfl, hA, hT⟩ := h
  refine (revetmentref04_Drive_Crash_calls (R := fun v w' => v = .tuple #[] ∧ Rf R.p (a.crash keep) F w0 w' X) ?_).mono fun e w' ⟨v, he, hv, ht⟩ => ⟨hv ▸ he, ht⟩
  unfold revetmentref04_Drive_Crash
  refine ⟨_, rfl, ?_⟩
  refine St.tA hT .head (by simp) (by rfl) rfl fun w1 hT1 => ?_
  have hT1' : T F w0 w1 (refL { R with cut := false } ++ X) := hT1
  have h2 : Rf R.p { a with power := none } F w0 w1 X := ⟨{ R with cut := false }, rfl, ⟨hA.n1, hA.safe, hA.wl, hA.ws, hA.pl, hA.sp, hA.dead, rfl⟩, hT1'⟩
  have hF1 : ({ a with power := none } : AD).Few 1000000 := hF
  have hcr : a.crash keep = ({ a with power := none } : AD).settle (keepG keep) := rfl
  rw [hcr]
  generalize ({ a with power := none } : AD) = b at h2 hF1
  clear hT1' hT1 hA hT
  refine ⟨fun vs w' => ∃ i : Nat, vs = [.int .i64 (cnt b.pend 0 i), .int .i64 i] ∧ i ≤ b.safe.length ∧ b.safe.length ≤ 4096 ∧ Rf R.p (b.part (keepG keep) i) F w0 w' X, fun vs _ => match vs with | [_, .int _ i] => (5000 - i).toNat | _ => 0, ⟨0, rfl, by omega, (by obtain ⟨_, _, hA, _⟩ := h2; exact hA.n1), by rw [part_zero]; exact h2⟩, ?_⟩
  rintro vs w3 ⟨i, rfl, hib, hn1, hR⟩
  have hR0 := hR
  obtain ⟨R3, hp3, hA3, hT3⟩ := hR
  have hwl := hA3.wl
  rw [part_len] at hwl
  refine ⟨_, _, rfl, ⟨R3.p, 0, none⟩, by rw [hp3], _, _, _, hT3.ldA (by repeat (first | exact List.Mem.head _ | refine List.Mem.tail _ ?_)) rfl, dec_t fun hlt => ?_, dec_f fun hge => ⟨rfl, R3, hp3, ?_, hT3⟩⟩
  · have hi : i < b.safe.length := by omega
    have hw : i < R3.ws.length := by omega
    obtain ⟨q1, hq, hc⟩ := T.row1 (i := i) (v := (R3.ws[i]).val) hT3 (show rowP 22 1 R3.gw R3.ws.length R3.cw (R3.ws.map RW.val) ∈ _ from (by repeat (first | exact List.Mem.head _ | refine List.Mem.tail _ ?_))) (by rw [List.getElem?_map, List.getElem?_eq_getElem hw]; rfl)
    have hws := hA3.ws i _ (List.getElem?_eq_getElem hw)
    have hpi : (b.part (keepG keep) i).pend i = b.pend i := by simp [AD.part]
    rw [hpi] at hws
    have wr : IntKind.i64.wrap ((i : Int) + 1) = ((i + 1 : Nat) : Int) := by rw [wrap64 _ (by omega) (by omega)]; omega
    have hcl := cnt_le b.pend i 0
    have meas : ((5000 : Int) - ((i + 1 : Nat) : Int)).toNat < ((5000 : Int) - (i : Int)).toNat := by omega
    refine ⟨⟨R3.p, 0, none⟩, by rw [hp3], _, _, _, hT3.ldA (by repeat (first | exact List.Mem.head _ | refine List.Mem.tail _ ?_)) (by rw [hq]; rfl), _, rfl, by omega, by omega, _, _, _, hc, ?_⟩
    rw [hws, wr]
    have hfl := hF1 i
    refine ⟨beq_t fun hz => ?_, beq_f fun hz => ?_⟩
    · have hpn : b.pend i = [] := List.eq_nil_of_length_eq_zero (by omega)
      refine ⟨⟨i + 1, ?_, by omega, hn1, by rw [part_skip b _ hi hpn]; exact hR0⟩, meas⟩
      rw [cnt_snoc, Nat.zero_add, if_pos hpn]; rfl
    · have hpn : b.pend i ≠ [] := by intro h; rw [h] at hz; simp at hz
      refine Join.intro fun J hJ => ?_
      have go : J [.int .i64 (keepG keep (cnt b.pend 0 i) (b.pend i).length)] w3 := by
        refine hJ _ _ ⟨_, rfl, ?_⟩
        have hk := rkeep_r hR0 (part_few hF1 _ i) (i := i) (n := keepG keep (cnt b.pend 0 i) (b.pend i).length) (by rw [part_len]; exact hi) (by rw [hpi]; exact keepG_le _ _ _)
        refine hk.mono fun e w4 ⟨he, h4⟩ => ⟨he, ⟨i + 1, ?_, by omega, hn1, ?_⟩, meas⟩
        · rw [cnt_snoc, Nat.zero_add, if_neg hpn, wrap64 _ (by omega) (by omega)]; rfl
        · rw [part_step b _ hi, if_neg hpn]
          exact h4
      refine ⟨dec_t fun h0 => ?_, dec_f fun h0 => ?_⟩
      · have hb := hk w3 (T.dropAll hT3)
        have hne : keep ≠ [] := by intro e; rw [e] at h0; simp at h0
        obtain ⟨ad, had⟩ := hb.1 hne
        have hlt2 : cnt b.pend 0 i % keep.length < keep.length := Nat.mod_lt _ (by omega)
        have htm : Int.tmod (cnt b.pend 0 i : Int) (keep.length : Int) = ((cnt b.pend 0 i % keep.length : Nat) : Int) := by rw [Int.tmod_eq_emod_of_nonneg (by omega)]; omega
        have h8 : (keep[cnt b.pend 0 i % keep.length]).toNat < 256 := (keep[cnt b.pend 0 i % keep.length]).toNat_lt
        have wm : IntKind.i64.wrap (((b.pend i).length : Int) + 1) = (((b.pend i).length + 1 : Nat) : Int) := by rw [wrap64 _ (by omega) (by omega)]; omega
        rw [wm, htm]
        refine ⟨by omega, ad, had, by omega, by omega, ((keep[cnt b.pend 0 i % keep.length]).toNat : Int), ?_, by omega, ?_⟩
        · rw [show ((cnt b.pend 0 i % keep.length : Nat) : Int).toNat * 1 = cnt b.pend 0 i % keep.length by omega]
          exact hb.2 ad had _ _ (List.getElem?_eq_getElem hlt2)
        · rw [wrap64 _ (by omega) (by omega), Int.tmod_eq_emod_of_nonneg (by omega)]
          have e1 : keepG keep (cnt b.pend 0 i) (b.pend i).length = (keep[cnt b.pend 0 i % keep.length]).toNat % ((b.pend i).length + 1) := by
            unfold keepG
            rw [if_neg (by omega), List.getD_eq_getElem?_getD, List.getElem?_eq_getElem hlt2]; rfl
          rw [e1] at go
          have e2 : (((keep[cnt b.pend 0 i % keep.length]).toNat : Int) % (((b.pend i).length + 1 : Nat) : Int)) = (((keep[cnt b.pend 0 i % keep.length]).toNat % ((b.pend i).length + 1) : Nat) : Int) := by push_cast; rfl
          rw [e2]
          exact go
      · have e1 : keepG keep (cnt b.pend 0 i) (b.pend i).length = 0 := by unfold keepG; rw [if_pos (by omega)]
        rw [e1] at go
        exact go
  · have hi : i = b.safe.length := by omega
    rw [hi] at hA3
    exact part_end hA3
theorem roff_set {p : Nat} {a : AD} {F : List Nat} {w0 w : World} {X : List A} (h : Rf p a F w0 w X) (n : Int) (hn : n ≤ 9223372036854775807) :
    Calls Try.prog 57 #[.pointer (some ⟨p, 0, none⟩), .int .i64 n] w fun e w' => e = .returned (.tuple #[]) ∧ Rf p (a.setOff n) F w0 w' X := by
  obtain ⟨R, rfl, hA, hT⟩ := h
  refine (revetmentref04_Drive_Off_calls (R := fun v w' => v = .tuple #[] ∧ Rf R.p (a.setOff n) F w0 w' X) ?_).mono fun e w' ⟨v, he, hv, ht⟩ => ⟨hv ▸ he, ht⟩
  unfold revetmentref04_Drive_Off
  refine ⟨_, rfl, ?_⟩
  refine St.tA hT .head (by simp) (by rfl) rfl fun w1 hT1 => ⟨_, _, max_run _ _ _ _ _ _, _, rfl, ?_⟩
  refine St.tA hT1 .head (by simp) (by rfl) rfl fun w2 hT2 => ⟨rfl, { R with cut := true, left := if 0 > n then 0 else n }, rfl, ⟨hA.n1, hA.safe, hA.wl, hA.ws, hA.pl, hA.sp, hA.dead, ?_⟩, hT2⟩
  simp only [AD.setOff]
  refine ⟨trivial, ?_, by omega⟩
  split <;> omega
/-- r.Gone = true -/
theorem rgone {p : Nat} {a : AD} {F : List Nat} {w0 w : World} {X : List A} {K : World → Prop} (h : Rf p a F w0 w X) (hK : ∀ w', Rf p a.die F w0 w' X → K w') : St (Addr.add ⟨p, 0, none⟩ 3) (.bool true) w K := by
  obtain ⟨R, rfl, hA, hT⟩ := h
  exact St.tA hT .head (by simp) (by rfl) rfl fun w1 hT1 => hK w1 ⟨{ R with gone := true }, rfl, ⟨hA.n1, hA.safe, hA.wl, hA.ws, hA.pl, hA.sp, rfl, hA.power⟩, hT1⟩
theorem push_t {P : Program} {F : List Nat} {w0 w : World} {Γ Δ : List A} {t e : TypeId} {i : TypeInfo} {z v : Value} (ht : P.underlying t = some (.slice e)) (hi : P.info? e = some i) (hz : i.zero = some z) (hsize : i.size = 1) (hzs : z.cells.size = 1) (hby : decide (i.bytes ≤ 1000000) = true)
    {g : Option Nat} {n cap : Nat} {xs : List Value} (hT : T F w0 w Γ) (hk : Pick (rowP e 1 g n cap xs) Γ Δ) (hv : v.oneCell' = true) (hn : n ≤ 1000000) {K : Option Addr → Nat → Nat → World → Prop} (hK : ∀ g' cap' w', T F w0 w' (rowP e 1 g' (n + 1) cap' (xs ++ [v]) :: Δ) → K (ptr g') (n + 1) cap' w') :
    Alloc #[v] e w fun k w1 => ∃ (p : Option Addr) (l c : Nat), ∃ w2, (builtin .append #[t, t] t #[false, false] #[.slice (ptr g) n cap, .slice (some ⟨k, 0, none⟩) 1 1]).run P w1 = .ok (.value (.slice p l c)) w2 ∧ K p l c w2 := by
  refine Alloc.t hT fun k w1 hT1 => ?_
  have hby' : i.bytes ≤ 1000000 := of_decide_eq_true hby
  have hmul : (n + 1) * i.bytes ≤ 1000001 * 1000000 := Nat.mul_le_mul (by omega) hby'
  obtain ⟨g', cap', w', hr, hT'⟩ := append_t (ty := t) #[false, false] ht hi hz hsize hzs hT1 (.tail hk) (a := ⟨k, 0, none⟩) (m := 1) (c := 1) (news := [v]) rfl (fun j u hu => by
      rw [addr_add, Nat.zero_add]
      exact hT1.ld (by repeat (first | exact List.Mem.head _ | refine List.Mem.tail _ ?_)) (by simpa using hu)) (fun u hu => by obtain rfl := List.mem_singleton.1 hu; exact hv) (by simp only [maxLen]; omega) (by omega)
  exact ⟨_, _, _, w', hr, hK g' cap' w' (T.drop (hT'.swap (.swap _ _ _)))⟩
theorem perm4b {α : Type} (d c b a : α) (l : List α) : (d :: c :: b :: a :: l).Perm (a :: b :: c :: d :: l) := by
  have h1 := List.reverse_perm [a, b, c, d]
  exact h1.append_right l
theorem rnew_r (n : Nat) {F : List Nat} {w0 w : World} {X : List A} (hT : T F w0 w X) (hn : 1 ≤ n ∧ n ≤ 4096) :
    Calls Try.prog 25 #[.int .i64 n] w fun e w' => ∃ p, e = .returned (.pointer (some ⟨p, 0, none⟩)) ∧ Rf p (AD.new n) F w0 w' X := by
  refine (revetmentref04_New_calls (R := fun v w' => ∃ p, v = .pointer (some ⟨p, 0, none⟩) ∧ Rf p (AD.new n) F w0 w' X) ?_).mono fun e w' ⟨v, he, p, hv, ht⟩ => ⟨p, hv ▸ he, ht⟩
  unfold revetmentref04_New
  refine ⟨dec_t fun h => absurd h (by omega), dec_f fun _ => ⟨dec_t fun h => absurd h (by omega), dec_f fun _ => ?_⟩⟩
  refine Alloc.t hT fun k w1 hT1 => (blank_spec w1).mono fun e w2 ⟨he, hx⟩ => ⟨_, he, ?_⟩
  have nils : ∀ m : Nat, (List.replicate m (⟨none, 0, []⟩ : RW)).map RW.row = List.replicate m (RW.row ⟨none, 0, []⟩) := fun m => by simp
  have hT2 : T F w0 w2 (refL ⟨k, none, 0, none, 0, none, 0, [], [], [], false, false, 0⟩ ++ X) := ((((hT1.quiet hx).swap (.refl _)).nilRow 4 1).nilRow 22 1).nilRow 9 1 |>.swap (by
    exact (List.perm_middle (l₁ := [rowP 9 1 none 0 0 [], rowP 22 1 none 0 0 [], rowP 4 1 none 0 0 []])))
  refine ⟨fun vs w' => ∃ (i : Nat) (gs gw gp : Option Nat) (cs cw cp : Nat), vs = [.int .i64 i] ∧ i ≤ n ∧ T F w0 w' (refL ⟨k, gs, cs, gw, cw, gp, cp, List.replicate i zeroSec, List.replicate i ⟨none, 0, []⟩, List.replicate i false, false, false, 0⟩ ++ X), fun vs _ => match vs with | [.int _ i] => (n - i).toNat | _ => 0, ⟨0, none, none, none, 0, 0, 0, rfl, by omega, hT2⟩, ?_⟩
  rintro vs w3 ⟨i, gs, gw, gp, cs, cw, cp, rfl, hin, hT3⟩
  refine ⟨_, rfl, dec_t fun hlt => ?_, dec_f fun hge => ⟨k, rfl, _, rfl, ?_, hT3⟩⟩
  · have wr : IntKind.i64.wrap ((i : Int) + 1) = ((i + 1 : Nat) : Int) := by rw [wrap64 _ (by omega) (by omega)]; omega
    rw [wr]
    have hk : refL ⟨k, gs, cs, gw, cw, gp, cp, List.replicate i zeroSec, List.replicate i ⟨none, 0, []⟩, List.replicate i false, false, false, 0⟩ = [blk k #[.slice (ptr gs) i cs, .slice (ptr gw) i cw, .slice (ptr gp) i cp, .bool false, .bool false, .int .i64 0] 48,
        rowP 9 1 gs i cs (List.replicate i (.string zeroSec)), rowP 22 1 gw i cw (List.replicate i (.slice none 0 0)), rowP 4 1 gp i cp (List.replicate i (.bool false))] ++ List.replicate i (RW.row ⟨none, 0, []⟩) := by
      simp only [refL, hdr, List.length_replicate, List.map_replicate]; rfl
    rw [hk] at hT3
    refine ⟨_, rfl, _, _, _, hT3.ld (by repeat (first | exact List.Mem.head _ | refine List.Mem.tail _ ?_)) rfl, push_t (i := Try.t9) (z := .string (ByteArray.mk #[])) (by kernel_rfl) (by kernel_rfl) (by kernel_rfl) (by kernel_rfl) (by kernel_rfl) (by kernel_rfl) hT3 (.tail .head) rfl (by omega) fun g1 c1 w4 hT4 => ⟨_, rfl, ?_⟩⟩
    refine St.t hT4 (.tail .head) (by simp) (by rfl) rfl fun w5 hT5 => ⟨_, rfl, _, _, _, hT5.ldA (by repeat (first | exact List.Mem.head _ | refine List.Mem.tail _ ?_)) rfl, ?_⟩
    refine push_t (i := Try.t22) (z := .slice none 0 0) (by kernel_rfl) (by kernel_rfl) (by kernel_rfl) (by kernel_rfl) (by kernel_rfl) (by kernel_rfl) hT5 (.tail (.tail .head)) rfl (by omega) fun g2 c2 w6 hT6 => ⟨_, rfl, ?_⟩
    refine St.tA hT6 (.tail (.tail .head)) (by simp) (by rfl) rfl fun w7 hT7 => ⟨_, rfl, _, _, _, hT7.ldA (by repeat (first | exact List.Mem.head _ | refine List.Mem.tail _ ?_)) rfl, ?_⟩
    refine push_t (i := Try.t4) (z := .bool false) (by kernel_rfl) (by kernel_rfl) (by kernel_rfl) (by kernel_rfl) (by kernel_rfl) (by kernel_rfl) hT7 (.tail (.tail (.tail .head))) rfl (by omega) fun g3 c3 w8 hT8 => ⟨_, rfl, ?_⟩
    refine St.tA hT8 (.tail (.tail (.tail .head))) (by simp) (by rfl) rfl fun w9 hT9 => ⟨⟨i + 1, g1, g2, g3, c1, c2, c3, rfl, by omega, ?_⟩, ?_⟩
    · have hk2 : refL ⟨k, g1, c1, g2, c2, g3, c3, List.replicate (i + 1) zeroSec, List.replicate (i + 1) ⟨none, 0, []⟩, List.replicate (i + 1) false, false, false, 0⟩ = [blk k #[.slice (ptr g1) (i + 1) c1, .slice (ptr g2) (i + 1) c2, .slice (ptr g3) (i + 1) c3, .bool false, .bool false, .int .i64 0] 48,
          rowP 9 1 g1 (i + 1) c1 (List.replicate i (.string zeroSec) ++ [.string zeroSec]), rowP 22 1 g2 (i + 1) c2 (List.replicate i (.slice none 0 0) ++ [.slice none 0 0]), rowP 4 1 g3 (i + 1) c3 (List.replicate i (.bool false) ++ [.bool false])] ++ (RW.row ⟨none, 0, []⟩ :: List.replicate i (RW.row ⟨none, 0, []⟩)) := by
        simp only [refL, hdr, List.length_replicate, List.map_replicate, ← List.replicate_succ', ← List.replicate_succ]; rfl
      rw [hk2]
      refine (nil_row hT9).swap ?_
      refine List.Perm.trans ?_ (List.perm_middle (l₁ := [blk k #[.slice (ptr g1) (i + 1) c1, .slice (ptr g2) (i + 1) c2, .slice (ptr g3) (i + 1) c3, .bool false, .bool false, .int .i64 0] 48,
          rowP 9 1 g1 (i + 1) c1 (List.replicate i (.string zeroSec) ++ [.string zeroSec]), rowP 22 1 g2 (i + 1) c2 (List.replicate i (.slice none 0 0) ++ [.slice none 0 0]), rowP 4 1 g3 (i + 1) c3 (List.replicate i (.bool false) ++ [.bool false])])).symm
      refine List.Perm.cons _ ?_
      exact perm4b _ _ _ _ _
    · show ((n : Int) - ((i + 1 : Nat) : Int)).toNat < ((n : Int) - (i : Int)).toNat
      omega
  · have hi : i = n := by omega
    subst hi
    refine ⟨by simp [AD.new]; omega, rfl, by simp [AD.new], fun j e he => ?_, by simp [AD.new], fun j b hb => ?_, rfl, rfl⟩
    · rw [List.eq_of_mem_replicate (List.mem_of_getElem? he)]; rfl
    · rw [List.eq_of_mem_replicate (List.mem_of_getElem? hb)]; rfl
end Go.Proofs.Ytdppllkjibfjcaa
end
section
/-! drive's laws: both drives, alike; DriveDead. -/
namespace Go.Proofs.Ytdppllkjibfjcaa
open Go.Sh Go.Maps Go.RowKit
set_option linter.unusedVariables false
set_option maxHeartbeats 2000000
set_option maxRecDepth 20000
/-- the program's drive and the reference's, that stand alike -/
def Two (p q : Nat) (a : AD) (F : List Nat) (w0 w : World) (X : List A) : Prop := ∃ D R, D.p = p ∧ R.p = q ∧ Abs D a ∧ RAbs R a ∧ T F w0 w (refL R ++ (X ++ drvL D))
theorem Two.one {p q : Nat} {a : AD} {F : List Nat} {w0 w : World} {X : List A} (h : Two p q a F w0 w X) : ∃ R, R.p = q ∧ RAbs R a ∧ Dr p a F w0 w (refL R ++ X) := by
  obtain ⟨D, R, h1, h2, h3, h4, h5⟩ := h
  exact ⟨R, h2, h4, D, h1, h3, by rw [List.append_assoc]; exact h5⟩
theorem Two.of_one {p q : Nat} {a b : AD} {F : List Nat} {w0 w : World} {X : List A} {R : RL} (h1 : R.p = q) (h2 : RAbs R b) (h : Dr p a F w0 w (refL R ++ X)) : ∃ D, D.p = p ∧ Abs D a ∧ Rf q b F w0 w (X ++ drvL D) := by
  obtain ⟨D, h3, h4, h5⟩ := h
  exact ⟨D, h3, h4, R, h1, h2, by rw [← List.append_assoc]; exact h5⟩
theorem Two.make {p q : Nat} {a : AD} {F : List Nat} {w0 w : World} {X : List A} {D : DL} (h1 : D.p = p) (h2 : Abs D a) (h : Rf q a F w0 w (X ++ drvL D)) : Two p q a F w0 w X := by
  obtain ⟨R, h3, h4, h5⟩ := h
  exact ⟨D, R, h1, h3, h2, h4, h5⟩
theorem Two.quiet {p q : Nat} {a : AD} {F : List Nat} {w0 w w' : World} {X : List A} (h : Two p q a F w0 w X) (he : Ext w w') : Two p q a F w0 w' X := by
  obtain ⟨D, R, h1, h2, h3, h4, h5⟩ := h
  exact ⟨D, R, h1, h2, h3, h4, h5.quiet he⟩
theorem Two.drew {p q : Nat} {a : AD} {F : List Nat} {w0 w : World} {X : List A} (h : Two p q a F w0 w X) : Two p q a F w0 w.drew X := by
  obtain ⟨D, R, h1, h2, h3, h4, h5⟩ := h
  exact ⟨D, R, h1, h2, h3, h4, h5.drew⟩
theorem Two.under {p q : Nat} {a : AD} {F : List Nat} {w0 w : World} {X : List A} (h : Two p q a F w0 w X) : T F w0 w X := by
  obtain ⟨D, R, h1, h2, h3, h4, h5⟩ := h
  exact T.dropAll ((T.dropAll h5).swap List.perm_append_comm)
theorem Two.ext {p q : Nat} {a : AD} {w0 w : World} {X : List A} (h : Two p q a [] w0 w X) : Ext w0 w := h.under.chg.ext
theorem Two.swapX {p q : Nat} {a : AD} {F : List Nat} {w0 w : World} {X Y : List A} (h : Two p q a F w0 w X) (hp : X.Perm Y) : Two p q a F w0 w Y := by
  obtain ⟨D, R, h1, h2, h3, h4, h5⟩ := h
  exact ⟨D, R, h1, h2, h3, h4, h5.swap ((hp.append_right _).append_left _)⟩
/-- one more block ahead -/
theorem Two.alloc {p q : Nat} {a : AD} {F : List Nat} {w0 w : World} {X : List A} {c : Array Value} {t : TypeId} {K : Nat → World → Prop} (h : Two p q a F w0 w X) (hK : ∀ b w', Two p q a F w0 w' (blk b c t :: X) → K b w') : Alloc c t w K := by
  obtain ⟨D, R, h1, h2, h3, h4, h5⟩ := h
  refine Alloc.t h5 fun b w' hT => hK b w' ⟨D, R, h1, h2, h3, h4, hT.swap ?_⟩
  exact (List.perm_middle (l₁ := refL R)).symm
theorem Two.dropX {p q : Nat} {a : AD} {F : List Nat} {w0 w : World} {X : List A} {x : A} (h : Two p q a F w0 w (x :: X)) : Two p q a F w0 w X := by
  obtain ⟨D, R, h1, h2, h3, h4, h5⟩ := h
  exact ⟨D, R, h1, h2, h3, h4, T.drop (h5.swap (List.perm_middle (l₁ := refL R)))⟩
section
variable {p q : Nat} {a : AD} {F : List Nat} {w0 w : World} {X : List A}
/-- the same call at both -/
def Same2 (P : Program) (f g : FuncId) (p q : Nat) (args : List Value) (v : Value) (b : AD) (F : List Nat) (w0 w : World) (X : List A) : Prop :=
  Calls P f (Value.pointer (some ⟨p, 0, none⟩) :: args).toArray w fun e w1 => e = .returned v ∧ T F w0 w1 X ∧ ∀ w2, Ext w1 w2 → Calls P g (Value.pointer (some ⟨q, 0, none⟩) :: args).toArray w2 fun e w3 => e = .returned v ∧ Two p q b F w0 w3 X
theorem write_2 (h : Two p q a F w0 w X) (hF : a.Few 999999) (i : Int) (s : ByteArray) : Same2 Try.prog 14 26 p q [.int .i64 i, .string s] (.int .i64 (a.put i s)) (a.write i s) F w0 w X := by
  obtain ⟨R, h1, h2, h3⟩ := h.one
  refine (write_a h3 (hF.mono (by decide)) i s).mono fun e w1 ⟨he, hd⟩ => ⟨he, T.dropAll hd.under, fun w2 hx => ?_⟩
  obtain ⟨D, h4, h5, h6⟩ := Two.of_one h1 h2 (hd.quiet hx)
  exact (rwrite_r h6 hF i s).mono fun e w3 ⟨he, hr⟩ => ⟨he, Two.make h4 h5 hr⟩
theorem flush_2 (h : Two p q a F w0 w X) (hF : a.Few 999999) : Same2 Try.prog 16 27 p q [] (.int .i64 a.flush1) a.flush F w0 w X := by
  obtain ⟨R, h1, h2, h3⟩ := h.one
  refine (flush_a h3 (hF.mono (by decide))).mono fun e w1 ⟨he, hd⟩ => ⟨he, T.dropAll hd.under, fun w2 hx => ?_⟩
  obtain ⟨D, h4, h5, h6⟩ := Two.of_one h1 h2 (hd.quiet hx)
  exact (rflush_r h6 (hF.mono (by decide))).mono fun e w3 ⟨he, hr⟩ => ⟨he, Two.make h4 h5 hr⟩
theorem spoil_2 (h : Two p q a F w0 w X) (i : Int) : Same2 Try.prog 21 41 p q [.int .i64 i] (.int .i64 (a.may i)) (a.spoil i) F w0 w X := by
  obtain ⟨R, h1, h2, h3⟩ := h.one
  refine (spoil_a h3 i).mono fun e w1 ⟨he, hd⟩ => ⟨he, T.dropAll hd.under, fun w2 hx => ?_⟩
  obtain ⟨D, h4, h5, h6⟩ := Two.of_one h1 h2 (hd.quiet hx)
  exact (rspoil_r h6 i).mono fun e w3 ⟨he, hr⟩ => ⟨he, Two.make h4 h5 hr⟩
theorem change_2 (h : Two p q a F w0 w X) (i : Int) (s : ByteArray) : Same2 Try.prog 30 56 p q [.int .i64 i, .string s] (.int .i64 (a.put i s)) (a.change i s) F w0 w X := by
  obtain ⟨R, h1, h2, h3⟩ := h.one
  refine (change_a h3 i s).mono fun e w1 ⟨he, hd⟩ => ⟨he, T.dropAll hd.under, fun w2 hx => ?_⟩
  obtain ⟨D, h4, h5, h6⟩ := Two.of_one h1 h2 (hd.quiet hx)
  exact (rchange_r h6 i s).mono fun e w3 ⟨he, hr⟩ => ⟨he, Two.make h4 h5 hr⟩
theorem off_2 (h : Two p q a F w0 w X) (n : Int) (hn : n ≤ 9223372036854775807) : Same2 Try.prog 20 57 p q [.int .i64 n] (.tuple #[]) (a.setOff n) F w0 w X := by
  obtain ⟨R, h1, h2, h3⟩ := h.one
  refine (off_a h3 n hn).mono fun e w1 ⟨he, hd⟩ => ⟨he, T.dropAll hd.under, fun w2 hx => ?_⟩
  obtain ⟨D, h4, h5, h6⟩ := Two.of_one h1 h2 (hd.quiet hx)
  exact (roff_set h6 n hn).mono fun e w3 ⟨he, hr⟩ => ⟨he, Two.make h4 h5 hr⟩
theorem crash_2 (h : Two p q a F w0 w X) (hF : a.Few 999999) (keep : List UInt8) (r : Option Addr) (c : Nat) (hkl : keep.length ≤ 1000000) (hk : ∀ w1, T F w0 w1 X → bytesAt w1 r keep) : Same2 Try.prog 17 42 p q [.slice r keep.length c] (.tuple #[]) (a.crash keep) F w0 w X := by
  obtain ⟨R, h1, h2, h3⟩ := h.one
  refine (crash_a h3 (hF.mono (by decide)) keep r c hkl fun w1 hT => hk w1 (T.dropAll hT)).mono fun e w1 ⟨he, hd⟩ => ⟨he, T.dropAll hd.under, fun w2 hx => ?_⟩
  obtain ⟨D, h4, h5, h6⟩ := Two.of_one h1 h2 (hd.quiet hx)
  exact (rcrash_r h6 (hF.mono (by decide)) keep r c hkl fun w1 hT => hk w1 (T.dropAll (hT.swap List.perm_append_comm))).mono fun e w3 ⟨he, hr⟩ => ⟨he, Two.make h4 h5 hr⟩
theorem read_2 (h : Two p q a F w0 w X) (hF : a.Few 999999) (i : Int) : Same2 Try.prog 18 55 p q [.int .i64 i] (.tuple #[.string (a.read i).1, .int .i64 (a.read i).2]) a F w0 w X := by
  obtain ⟨R, h1, h2, h3⟩ := h.one
  refine (read_a h3 (hF.mono (by decide)) i).mono fun e w1 ⟨he, hx⟩ => ⟨he, T.dropAll (h3.quiet hx).under, fun w2 hx2 => ?_⟩
  obtain ⟨D, h4, h5, h6⟩ := Two.of_one h1 h2 ((h3.quiet hx).quiet hx2)
  exact (rread_r h6 (hF.mono (by decide)) i).mono fun e w3 ⟨he, hr⟩ => ⟨he, Two.make h4 h5 (h6.quiet hr)⟩
theorem safe_2 (h : Two p q a F w0 w X) (i : Int) : Same2 Try.prog 22 58 p q [.int .i64 i] (.tuple #[.string (a.safeAt i).1, .int .i64 (a.safeAt i).2]) a F w0 w X := by
  obtain ⟨R, h1, h2, h3⟩ := h.one
  refine (safe_a h3 i).mono fun e w1 ⟨he, hx⟩ => ⟨he, T.dropAll (h3.quiet hx).under, fun w2 hx2 => ?_⟩
  obtain ⟨D, h4, h5, h6⟩ := Two.of_one h1 h2 ((h3.quiet hx).quiet hx2)
  exact (rsafe_r h6 i).mono fun e w3 ⟨he, hr⟩ => ⟨he, Two.make h4 h5 (h6.quiet hr)⟩
theorem die_2 (h : Two p q a F w0 w X) : Calls Try.prog 28 #[.pointer (some ⟨p, 0, none⟩)] w fun e w1 => e = .returned (.tuple #[]) ∧ ∀ K : World → Prop, (∀ w', Two p q a.die F w0 w' X → K w') → St (Addr.add ⟨q, 0, none⟩ 3) (.bool true) w1 K := by
  obtain ⟨R, h1, h2, h3⟩ := h.one
  refine (die_a h3).mono fun e w1 ⟨he, hd⟩ => ⟨he, fun K hK => ?_⟩
  obtain ⟨D, h4, h5, h6⟩ := Two.of_one h1 h2 hd
  exact rgone h6 fun w' hr => hK w' (Two.make h4 h5 hr)
end
/-- what a call turns a drive into -/
def actA (a : AD) (k i : Int) (s : ByteArray) (keep : List UInt8) : AD :=
  if k = 0 then a.write i (fullB s) else if k = 1 then a.write i s else if k = 2 then a else if k = 3 then a.flush else if k = 4 then a.crash keep else if k = 5 then a.spoil i else if k = 6 then a.change i (fullB s) else if k = 7 then a.die else if k = 9 then a.setOff i else a
theorem does_spec {p q : Nat} {a : AD} {w0 w : World} (h : Two p q a [] w0 w []) (hF : a.Few 999998) (k i : Int) (hi : i ≤ 9223372036854775807) (s : ByteArray) (hs : s.size ≤ 9000000000000000000) (keep : List UInt8) (hkl : keep.length ≤ 1000000) (r : Option Addr) (c : Nat) (hk : bytesAt w0 r keep) :
    Calls Try.prog 29 #[.pointer (some ⟨p, 0, none⟩), .pointer (some ⟨q, 0, none⟩), .agg #[.int .i64 k, .int .i64 i, .string s, .slice r keep.length c]] w fun e w' => e = .returned (.bool true) ∧ Two p q (actA a k i s keep) [] w0 w' [] := by
  refine (revetmentlaw04_does_calls (R := fun v w' => v = .bool true ∧ Two p q (actA a k i s keep) [] w0 w' []) ?_).mono fun e w' ⟨v, he, hv, ht⟩ => ⟨hv ▸ he, ht⟩
  unfold revetmentlaw04_does
  have hF' : a.Few 999999 := hF.mono (by decide)
  refine h.alloc fun k5 w1 h1 => ?_
  have ldT : ∀ {w' : World}, T [] w0 w' [blk k5 #[.int .i64 k, .int .i64 i, .string s, .slice r keep.length c] 51] → ∀ (j : Nat) (v : Value), #[Value.int .i64 k, .int .i64 i, .string s, .slice r keep.length c][j]? = some v → w'.cell? ⟨k5, j, none⟩ = some v := fun h j v hv => h.ld List.mem_cons_self hv
  have ld : ∀ {b : AD} {w' : World}, Two p q b [] w0 w' [blk k5 #[.int .i64 k, .int .i64 i, .string s, .slice r keep.length c] 51] → ∀ (j : Nat) (v : Value), #[Value.int .i64 k, .int .i64 i, .string s, .slice r keep.length c][j]? = some v → w'.cell? ⟨k5, j, none⟩ = some v := fun h => ldT h.under
  have hk' : ∀ w1, T [] w0 w1 [blk k5 #[.int .i64 k, .int .i64 i, .string s, .slice r keep.length c] 51] → bytesAt w1 r keep := fun w1 hT => hk.ext hT.chg.ext
  refine ⟨_, ld h1 0 _ rfl, beq_t fun hk0 => ?_, beq_f fun hk0 => ⟨beq_t fun hk1 => ?_, beq_f fun hk1 => ⟨beq_t fun hk2 => ?_, beq_f fun hk2 => ⟨beq_t fun hk3 => ?_, beq_f fun hk3 => ⟨beq_t fun hk4 => ?_, beq_f fun hk4 => ⟨beq_t fun hk5 => ?_, beq_f fun hk5 => ⟨beq_t fun hk6 => ?_, beq_f fun hk6 => ⟨beq_t fun hk7 => ?_, beq_f fun hk7 => ⟨beq_t fun hk9 => ?_, beq_f fun hk9 => ⟨beq_t fun hk8 => ?_, beq_f fun hk8 => ?_⟩⟩⟩⟩⟩⟩⟩⟩⟩⟩
  · -- Write, filled up
    have ha : actA a k i s keep = a.write i (fullB s) := by unfold actA; rw [if_pos hk0]
    rw [ha]
    have hd := h1.drew
    refine ⟨fun w' => w'.cell? ⟨k5, 1, none⟩ = some (.int .i64 i) ∧ w'.cell? ⟨k5, 2, none⟩ = some (.string s), ⟨ld hd 1 _ rfl, ld hd 2 _ rfl⟩, _, fun w h => h.1, _, fun w h => h.2, ?_⟩
    refine (full_spec s hs _).mono fun e w2 ⟨he, hx⟩ => ⟨_, he, ⟨ld (hd.quiet hx) 1 _ rfl, ld (hd.quiet hx) 2 _ rfl⟩, ?_⟩
    refine Calls.mono (write_2 (hd.quiet hx) hF' i (fullB s)) fun e w3 ⟨he, hT3, hg⟩ => ⟨_, he, ⟨ldT hT3 1 _ rfl, ldT hT3 2 _ rfl⟩, _, fun w h => h.1, _, fun w h => h.2, ?_⟩
    refine (full_spec s hs _).mono fun e w4 ⟨he, hx⟩ => ⟨_, he, ⟨ldT (hT3.quiet hx) 1 _ rfl, ldT (hT3.quiet hx) 2 _ rfl⟩, ?_⟩
    exact Calls.mono (hg w4 hx) fun e w5 ⟨he, h5⟩ => ⟨_, he, ⟨ld h5 1 _ rfl, ld h5 2 _ rfl⟩, by simp, h5.dropX⟩
  · have ha : actA a k i s keep = a.write i s := by unfold actA; rw [if_neg hk0, if_pos hk1]
    rw [ha]
    have hd := h1.drew
    refine ⟨fun w' => w'.cell? ⟨k5, 1, none⟩ = some (.int .i64 i) ∧ w'.cell? ⟨k5, 2, none⟩ = some (.string s), ⟨ld hd 1 _ rfl, ld hd 2 _ rfl⟩, _, fun w h => h.1, _, fun w h => h.2, ?_⟩
    refine Calls.mono (write_2 hd hF' i s) fun e w3 ⟨he, hT3, hg⟩ => ⟨_, he, ⟨ldT hT3 1 _ rfl, ldT hT3 2 _ rfl⟩, _, fun w h => h.1, _, fun w h => h.2, ?_⟩
    exact Calls.mono (hg w3 (.refl _)) fun e w5 ⟨he, h5⟩ => ⟨_, he, ⟨ld h5 1 _ rfl, ld h5 2 _ rfl⟩, by simp, h5.dropX⟩
  · have ha : actA a k i s keep = a := by unfold actA; rw [if_neg hk0, if_neg hk1, if_pos hk2]
    rw [ha]
    refine ⟨_, ld h1 1 _ rfl, Calls.mono (read_2 h1 hF' i) fun e w3 ⟨he, hT3, hg⟩ => ⟨_, _, he, _, ldT hT3 1 _ rfl, ?_⟩⟩
    exact Calls.mono (hg w3 (.refl _)) fun e w5 ⟨he, h5⟩ => ⟨_, _, he, yes (same_str _) ⟨by simp, h5.dropX⟩⟩
  · have ha : actA a k i s keep = a.flush := by unfold actA; rw [if_neg hk0, if_neg hk1, if_neg hk2, if_pos hk3]
    rw [ha]
    refine Calls.mono (flush_2 h1 hF') fun e w3 ⟨he, hT3, hg⟩ => ⟨_, he, ?_⟩
    exact Calls.mono (hg w3 (.refl _)) fun e w5 ⟨he, h5⟩ => ⟨_, he, by simp, h5.dropX⟩
  · have ha : actA a k i s keep = a.crash keep := by unfold actA; rw [if_neg hk0, if_neg hk1, if_neg hk2, if_neg hk3, if_pos hk4]
    rw [ha]
    refine ⟨_, _, _, ld h1 3 _ rfl, Calls.mono (crash_2 h1 hF' keep r c hkl hk') fun e w3 ⟨he, hT3, hg⟩ => ⟨he, _, _, _, ldT hT3 3 _ rfl, ?_⟩⟩
    exact Calls.mono (hg w3 (.refl _)) fun e w5 ⟨he, h5⟩ => ⟨he, rfl, h5.dropX⟩
  · have ha : actA a k i s keep = a.spoil i := by unfold actA; rw [if_neg hk0, if_neg hk1, if_neg hk2, if_neg hk3, if_neg hk4, if_pos hk5]
    rw [ha]
    have hd := h1.drew
    refine ⟨fun w' => w'.cell? ⟨k5, 1, none⟩ = some (.int .i64 i), ld hd 1 _ rfl, _, fun w h => h, ?_⟩
    refine Calls.mono (spoil_2 hd i) fun e w3 ⟨he, hT3, hg⟩ => ⟨_, he, ldT hT3 1 _ rfl, _, fun w h => h, ?_⟩
    exact Calls.mono (hg w3 (.refl _)) fun e w5 ⟨he, h5⟩ => ⟨_, he, ld h5 1 _ rfl, by simp, h5.dropX⟩
  · have ha : actA a k i s keep = a.change i (fullB s) := by unfold actA; rw [if_neg hk0, if_neg hk1, if_neg hk2, if_neg hk3, if_neg hk4, if_neg hk5, if_pos hk6]
    rw [ha]
    have hd := h1.drew
    refine ⟨fun w' => w'.cell? ⟨k5, 1, none⟩ = some (.int .i64 i) ∧ w'.cell? ⟨k5, 2, none⟩ = some (.string s), ⟨ld hd 1 _ rfl, ld hd 2 _ rfl⟩, _, fun w h => h.1, _, fun w h => h.2, ?_⟩
    refine (full_spec s hs _).mono fun e w2 ⟨he, hx⟩ => ⟨_, he, ⟨ld (hd.quiet hx) 1 _ rfl, ld (hd.quiet hx) 2 _ rfl⟩, ?_⟩
    refine Calls.mono (change_2 (hd.quiet hx) i (fullB s)) fun e w3 ⟨he, hT3, hg⟩ => ⟨_, he, ⟨ldT hT3 1 _ rfl, ldT hT3 2 _ rfl⟩, _, fun w h => h.1, _, fun w h => h.2, ?_⟩
    refine (full_spec s hs _).mono fun e w4 ⟨he, hx⟩ => ⟨_, he, ⟨ldT (hT3.quiet hx) 1 _ rfl, ldT (hT3.quiet hx) 2 _ rfl⟩, ?_⟩
    exact Calls.mono (hg w4 hx) fun e w5 ⟨he, h5⟩ => ⟨_, he, ⟨ld h5 1 _ rfl, ld h5 2 _ rfl⟩, by simp, h5.dropX⟩
  · have ha : actA a k i s keep = a.die := by unfold actA; rw [if_neg hk0, if_neg hk1, if_neg hk2, if_neg hk3, if_neg hk4, if_neg hk5, if_neg hk6, if_pos hk7]
    rw [ha]
    refine (die_2 h1).mono fun e w3 ⟨he, hK⟩ => ⟨he, _, rfl, hK _ fun w' h' => ⟨rfl, h'.dropX⟩⟩
  · have ha : actA a k i s keep = a.setOff i := by unfold actA; rw [if_neg hk0, if_neg hk1, if_neg hk2, if_neg hk3, if_neg hk4, if_neg hk5, if_neg hk6, if_neg hk7, if_pos hk9]
    rw [ha]
    refine ⟨_, ld h1 1 _ rfl, Calls.mono (off_2 h1 i hi) fun e w3 ⟨he, hT3, hg⟩ => ⟨he, _, ldT hT3 1 _ rfl, ?_⟩⟩
    exact Calls.mono (hg w3 (.refl _)) fun e w5 ⟨he, h5⟩ => ⟨he, rfl, h5.dropX⟩
  · have ha : actA a k i s keep = a := by unfold actA; rw [if_neg hk0, if_neg hk1, if_neg hk2, if_neg hk3, if_neg hk4, if_neg hk5, if_neg hk6, if_neg hk7, if_neg hk9]
    rw [ha]
    refine ⟨_, ld h1 1 _ rfl, Calls.mono (safe_2 h1 i) fun e w3 ⟨he, hT3, hg⟩ => ⟨_, _, he, _, ldT hT3 1 _ rfl, ?_⟩⟩
    exact Calls.mono (hg w3 (.refl _)) fun e w5 ⟨he, h5⟩ => ⟨_, _, he, yes (same_str _) ⟨by simp, h5.dropX⟩⟩
  · have ha : actA a k i s keep = a := by unfold actA; rw [if_neg hk0, if_neg hk1, if_neg hk2, if_neg hk3, if_neg hk4, if_neg hk5, if_neg hk6, if_neg hk7, if_neg hk9]
    rw [ha]
    exact ⟨rfl, h1.dropX⟩
end Go.Proofs.Ytdppllkjibfjcaa
end
