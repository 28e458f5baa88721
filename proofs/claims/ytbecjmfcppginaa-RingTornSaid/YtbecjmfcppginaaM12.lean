import Derived.Laws.StructEq
import Derived.Test.YtbecjmfcppginaaM10
import Derived.Test.YtbecjmfcppginaaM11
section
/-! ring: record. -/
namespace Go.Proofs.Ytbecjmfcppginaa
open Go.Sh Go.RowKit
set_option linter.unusedVariables false
set_option linter.unusedSimpArgs false
set_option maxRecDepth 20000
set_option maxHeartbeats 1000000
def rxV (d : RcV × Bool) (g : Option Nat) (cap : Nat) : Value := .tuple #[.agg (rcC d.1.1 d.1.2.1 (ptr g) d.1.2.2.length cap), .bool d.2]
theorem readsF_len (a : AD) (at_ : Int) (k : Nat) : (readsF a at_ k).length = k := by unfold readsF; rw [List.length_map, List.length_range]
theorem readsF_next (a : AD) (at_ : Int) (k : Nat) : readsF a at_ (k + 1) = readsF a at_ k ++ [(a.read (at_ + 1 + (k : Int))).1.data.toList] := by
  unfold readsF; rw [List.range_succ, List.map_append]; rfl
theorem strB_data (s : ByteArray) : strB s.data.toList = s := rfl
section
variable {q r S t n : Nat} {a : AD} {F : List Nat} {w0 w : World} {X : List A}
theorem Dr.size_of (h : Dr q a F w0 w X) (i : Int) : (a.read i).1.data.toList.length ≤ 64 := h.read_size i
theorem Dr.push1 {t e : TypeId} {i : TypeInfo} {z v : Value} (ht : Try.prog.underlying t = some (.slice e)) (hi : Try.prog.info? e = some i) (hz : i.zero = some z) (hsize : i.size = 1) (hzs : z.cells.size = 1) (hby : decide (i.bytes ≤ 1000000) = true)
    {g : Option Nat} {n cap : Nat} {xs : List Value} {Δ : List A} (h : Dr q a F w0 w X) (hk : Pick (rowP e 1 g n cap xs) X Δ) (hv : v.oneCell' = true) (hn : n ≤ 1000000) {K : Option Addr → Nat → Nat → World → Prop} (hK : ∀ g' cap' w', Dr q a F w0 w' (rowP e 1 g' (n + 1) cap' (xs ++ [v]) :: Δ) → K (ptr g') (n + 1) cap' w') :
    Alloc #[v] e w fun k w1 => ∃ (p : Option Addr) (l c : Nat), ∃ w2, (builtin .append #[t, t] t #[false, false] #[.slice (ptr g) n cap, .slice (some ⟨k, 0, none⟩) 1 1]).run Try.prog w1 = .ok (.value (.slice p l c)) w2 ∧ K p l c w2 := by
  obtain ⟨D, hD, hA, hT⟩ := h
  exact push1_t ht hi hz hsize hzs hby hT (hk.app (drvL D)) hv hn fun g' cap' w' hT' => hK g' cap' w' ⟨D, hD, hA, hT'⟩
theorem Dr.pushN {t e : TypeId} {i : TypeInfo} {z : Value} {c : Array Value} {size : Nat} (ht : Try.prog.underlying t = some (.slice e)) (hi : Try.prog.info? e = some i) (hz : i.zero = some z) (hsize : i.size = size) (hzs : z.cells.size = size) (hby : decide (i.bytes ≤ 1000000) = true)
    {g : Option Nat} {n cap : Nat} {xs : List Value} {Δ : List A} (h : Dr q a F w0 w X) (hk : Pick (rowP e size g n cap xs) X Δ) (hc : c.size = size) (hv : ∀ u ∈ c.toList, u.oneCell' = true) (hn : n ≤ 1000000) {K : Option Addr → Nat → Nat → World → Prop} (hK : ∀ g' cap' w', Dr q a F w0 w' (rowP e size g' (n + 1) cap' (xs ++ c.toList) :: Δ) → K (ptr g') (n + 1) cap' w') :
    Alloc c e w fun k w1 => ∃ (p : Option Addr) (l c : Nat), ∃ w2, (builtin .append #[t, t] t #[false, false] #[.slice (ptr g) n cap, .slice (some ⟨k, 0, none⟩) 1 1]).run Try.prog w1 = .ok (.value (.slice p l c)) w2 ∧ K p l c w2 := by
  obtain ⟨D, hD, hA, hT⟩ := h
  exact pushN_t ht hi hz hsize hzs hby hT (hk.app (drvL D)) hc hv hn fun g' cap' w' hT' => hK g' cap' w' ⟨D, hD, hA, hT'⟩
theorem record_spec (h : Dr q a F w0 w X) (hm : blk r (rgC q S t n) 72 ∈ X) (hF : a.Few 1000000) (h1 : 1 ≤ S) (h2 : S ≤ 1000000) {m : Nat} (hm64 : m < 2 ^ 64) :
    Calls Try.prog 32 #[.pointer (some ⟨r, 0, none⟩), .int .u64 (m : Int)] w fun e w' => ∃ g cap, e = .returned (rxV (recF a S m) g cap) ∧ Dr q a F w0 w' (rowP 84 3 g (recF a S m).1.2.2.length cap (rpL (recF a S m).1.2.2) :: X) := by
  refine (ring_Ring_record_calls (R := fun v w' => ∃ g cap, v = rxV (recF a S m) g cap ∧ Dr q a F w0 w' (rowP 84 3 g (recF a S m).1.2.2.length cap (rpL (recF a S m).1.2.2) :: X)) ?_).mono fun e w' ⟨v, he, g, cap, hv, h⟩ => ⟨g, cap, by rw [he, hv], h⟩
  unfold ring_Ring_record
  refine Dr.alloc h fun k4 w1 h1' => ?_
  have h1' : Dr q a F w0 w1 (blk k4 zR 46 :: X) := h1'
  have bad : ∀ (w' : World) (Δ : List A), Dr q a F w0 w' (Δ ++ blk k4 zR 46 :: X) → recF a S m = (zRc, false) →
      St ⟨k4, 0, none⟩ (.int .u64 0) w' fun w2 => St ⟨k4, 1, none⟩ (.int .i64 0) w2 fun w3 => St ⟨k4, 2, none⟩ (.slice none 0 0) w3 fun w4 => ∃ nr2_0 : Int, ∃ nr2_1 : Int, ∃ (pr2_2 : Option Addr) (lr2_2 cr2_2 : Nat), (w4.cell? ⟨k4, 0, none⟩ = some (.int .u64 nr2_0) ∧ w4.cell? ⟨k4, 1, none⟩ = some (.int .i64 nr2_1) ∧ w4.cell? ⟨k4, 2, none⟩ = some (.slice pr2_2 lr2_2 cr2_2)) ∧
        ∃ g cap, (Value.tuple #[.agg #[.int .u64 nr2_0, .int .i64 nr2_1, .slice pr2_2 lr2_2 cr2_2], .bool false]) = rxV (recF a S m) g cap ∧ Dr q a F w0 w4 (rowP 84 3 g (recF a S m).1.2.2.length cap (rpL (recF a S m).1.2.2) :: X) := by
    intro w' Δ hT' hd
    have hT' := Dr.back hT'
    refine Dr.st1 (c' := zR) hT' (show 0 < 3 by decide) rfl rfl fun w2 h2 => Dr.st1 (c' := zR) h2 (show 1 < 3 by decide) rfl rfl fun w3 h3 => Dr.st1 (c' := zR) h3 (show 2 < 3 by decide) rfl rfl fun w4 h4 => ?_
    refine ⟨_, _, _, _, _, ⟨h4.under.ld (c := zR) List.mem_cons_self rfl, h4.under.ld (c := zR) (i := 1) List.mem_cons_self rfl, h4.under.ld (c := zR) (i := 2) List.mem_cons_self rfl⟩, none, 0, ?_, ?_⟩
    · rw [hd]; rfl
    · rw [hd]; exact Dr.nilRow h4.dropX _ _
  refine (first_spec h1' (List.mem_cons_of_mem _ hm) h1 h2 m).mono fun e w2 ⟨he2, hx2⟩ => ⟨_, he2, ?_⟩
  have hd2 := h1'.quiet hx2
  have ptrR : ∀ {w' : World} {Δ : List A}, Dr q a F w0 w' (Δ ++ blk k4 zR 46 :: X) → w'.cell? ⟨r, 0, none⟩ = some (.pointer (some ⟨q, 0, none⟩)) := fun hh => hh.under.ld (c := rgC q S t n) (List.mem_append_right _ (List.mem_cons_of_mem _ hm)) rfl
  obtain ⟨at_, hat, hat0, hat1⟩ : ∃ x : Int, ratF S m = x ∧ 0 ≤ x ∧ x ≤ 50000000 := ⟨_, rfl, by unfold ratF; omega, by have : m % S < S := Nat.mod_lt _ (by omega); unfold ratF; omega⟩
  have eat : (4 + 41 * ((m % S : Nat) : Int)) = at_ := hat
  rw [eat]
  refine ⟨_, rfl, _, ptrR (Δ := []) hd2, ?_⟩
  refine (read_a hd2 hF at_).mono fun e w3 ⟨he3, hx3⟩ => ⟨_, _, he3, ?_⟩
  have hd3 := hd2.quiet hx3
  have hsz := hd3.size_of at_
  have hrec : recF a S m = if (a.read at_).2 ≠ 0 then (zRc, false)
      else if (decH (a.read at_).1.data.toList).2 ≠ 0 ∨ (decH (a.read at_).1.data.toList).1.1 ≠ m then (zRc, false)
      else if ∃ i, i < (decH (a.read at_).1.data.toList).1.2.2.1.length ∧ (a.read (at_ + 1 + (i : Int))).2 ≠ 0 then (zRc, false)
      else ((decR (a.read at_).1.data.toList (readsF a at_ (decH (a.read at_).1.data.toList).1.2.2.1.length)).1, decide ((decR (a.read at_).1.data.toList (readsF a at_ (decH (a.read at_).1.data.toList).1.2.2.1.length)).2 = 0)) := by
    unfold recF; rw [hat]
  rw [← strB_data (a.read at_).1]
  generalize (a.read at_).1.data.toList = b at hrec hsz
  generalize (a.read at_).2 = er at hrec
  refine ⟨bne_t fun hne => bad w3 [] hd3 (by rw [hrec]; exact if_pos hne), bne_f fun heq => ?_⟩
  rw [if_neg (fun hn => hn heq)] at hrec
  refine Dr.intoT (Y := []) hd3 fun Γ hT hback => ?_
  have h41 := decH_len b
  have hhd := rhead_spec hT b (by omega)
  generalize decH b = d at hhd hrec h41
  obtain ⟨⟨seq, row, ps, sum⟩, e2⟩ := d
  have h41 : ps.length ≤ 41 := h41
  have hrec : recF a S m = if e2 ≠ 0 ∨ seq ≠ m then (zRc, false) else if ∃ i, i < ps.length ∧ (a.read (at_ + 1 + (i : Int))).2 ≠ 0 then (zRc, false) else ((decR b (readsF a at_ ps.length)).1, decide ((decR b (readsF a at_ ps.length)).2 = 0)) := hrec
  refine hhd.mono fun e w7 ⟨g, cap, he7, hT7⟩ => ⟨_, _, _, _, _, _, _, he7, ?_⟩
  have h7 : Dr q a F w0 w7 (rowP 84 3 g ps.length cap (rpL ps) :: blk k4 zR 46 :: X) := hback w7 [_] hT7
  refine Dr.alloc h7 fun k9 w8 h8 => Dr.st1 (c := zR) (c' := #[.int .u64 (seq : Int), .int .i64 0, .slice none 0 0]) h8 (show 0 < 3 by decide) rfl rfl fun w9 h9 => Dr.st1 (c' := #[.int .u64 (seq : Int), .int .i64 row, .slice none 0 0]) h9 (show 1 < 3 by decide) rfl rfl fun w10 h10 => Dr.st1 (c' := rcC seq row (ptr g) ps.length cap) h10 (show 2 < 3 by decide) rfl rfl fun w11 h11 => ?_
  refine ⟨bne_t fun hne => bad w11 [_, _] h11 (by rw [hrec]; exact if_pos (Or.inl hne)), bne_f fun heq2 => ?_⟩
  refine ⟨_, h11.under.ld (c := rcC seq row (ptr g) ps.length cap) List.mem_cons_self rfl, ?_⟩
  refine ⟨bne_t fun hne => bad w11 [_, _] h11 (by rw [hrec]; exact if_pos (Or.inr (by omega))), bne_f fun heq3 => ?_⟩
  have heq3 : seq = m := by omega
  have heq2 : e2 = 0 := heq2
  rw [if_neg (by omega)] at hrec
  refine ⟨_, _, _, h11.under.ld (c := rcC seq row (ptr g) ps.length cap) (i := 2) List.mem_cons_self rfl, ?_⟩
  refine ⟨fun vs w' => ∃ (i : Nat) (gl : Option Nat) (cl : Nat), vs = [.slice (ptr gl) i cl, .int .i64 (i : Int)] ∧ i ≤ ps.length ∧ (∀ j, j < i → (a.read (at_ + 1 + (j : Int))).2 = 0) ∧ Dr q a F w0 w' (rowP 9 1 gl i cl (strV (readsF a at_ i)) :: blk k9 (rcC seq row (ptr g) ps.length cap) 46 :: rowP 84 3 g ps.length cap (rpL ps) :: blk k4 zR 46 :: X), fun vs _ => match vs with | [_, .int _ i] => (ps.length - i).toNat | _ => 0, ⟨0, none, 0, rfl, by omega, fun j hj => by omega, Dr.nilRow h11 _ _⟩, ?_⟩
  rintro vs w18 ⟨i, gl, cl, rfl, hi, hok, h18⟩
  refine ⟨_, _, _, _, rfl, dec_t fun hlt => ?_, dec_f fun hge => ?_⟩
  · have hlt : i < ps.length := by omega
    have e41 : IntKind.i64.wrap (IntKind.i64.wrap (at_ + 1) + (i : Int)) = at_ + 1 + (i : Int) := by
      rw [wrap64 (at_ + 1) (by omega) (by omega), wrap64 _ (by omega) (by omega)]
    rw [e41]
    refine ⟨_, rfl, _, ptrR (Δ := [_, _, _]) h18, ?_⟩
    refine (read_a h18 hF (at_ + 1 + (i : Int))).mono fun e w19 ⟨he19, hx19⟩ => ⟨_, _, he19, ?_⟩
    have h19 := h18.quiet hx19
    have hnext := readsF_next a at_ i
    refine ⟨bne_t fun hne => bad w19 [_, _, _] h19 (by rw [hrec]; exact if_pos ⟨i, hlt, hne⟩), bne_f fun heq => ?_⟩
    rw [← strB_data (a.read (at_ + 1 + (i : Int))).1]
    refine Dr.push1 (i := Try.t9) (z := .string (ByteArray.mk #[])) (by kernel_rfl) (by kernel_rfl) (by kernel_rfl) (by kernel_rfl) (by kernel_rfl) (by kernel_rfl) h19 .head rfl (by omega) fun g2 cap2 w24 h24 => ⟨⟨i + 1, g2, cap2, ?_, by omega, fun j hj => ?_, ?_⟩, ?_⟩
    · rw [wrap64 _ (by omega) (by omega)]; rfl
    · by_cases hji : j = i
      · rw [hji]; exact heq
      · exact hok j (by omega)
    · have : strV (readsF a at_ (i + 1)) = strV (readsF a at_ i) ++ [.string (strB (a.read (at_ + 1 + (i : Int))).1.data.toList)] := by
        rw [hnext]; unfold strV; rw [List.map_append]; rfl
      rw [this]; exact h24
    · show ((ps.length : Int) - IntKind.i64.wrap ((i : Int) + 1)).toNat < ((ps.length : Int) - (i : Int)).toNat
      rw [wrap64 _ (by omega) (by omega)]; omega
  · have hie : i = ps.length := by omega
    subst hie
    rw [if_neg (fun ⟨j, hj, hx⟩ => hx (hok j hj))] at hrec
    have hlen := readsF_len a at_ ps.length
    generalize readsF a at_ ps.length = L at hrec hlen h18
    have h18' : Dr q a F w0 w18 (rowP 9 1 gl L.length cl (strV L) :: blk k9 (rcC seq row (ptr g) ps.length cap) 46 :: rowP 84 3 g ps.length cap (rpL ps) :: blk k4 zR 46 :: X) := by rw [hlen]; exact h18
    refine Dr.intoT (Y := []) h18' fun Γ hT hback => ?_
    have hrd := rdec_spec hT b (by omega) (L := L) (gl := gl) (cl := cl) List.mem_cons_self
    rw [hlen] at hrd hback
    generalize decR b L = d at hrd hrec
    obtain ⟨⟨seq', row', ps'⟩, e3⟩ := d
    refine hrd.mono fun e w25 ⟨g', cap', he25, hT25⟩ => ⟨_, _, _, _, _, _, he25, ?_⟩
    have h25 : Dr q a F w0 w25 (rowP 84 3 g' ps'.length cap' (rpL ps') :: rowP 9 1 gl ps.length cl (strV L) :: blk k9 (rcC seq row (ptr g) ps.length cap) 46 :: rowP 84 3 g ps.length cap (rpL ps) :: blk k4 zR 46 :: X) := hback w25 [_] hT25
    have h25 : Dr q a F w0 w25 (blk k4 zR 46 :: rowP 84 3 g' ps'.length cap' (rpL ps') :: X) := by
      have hp := Dr.perm h25 (X' := rowP 9 1 gl ps.length cl (strV L) :: blk k9 (rcC seq row (ptr g) ps.length cap) 46 :: rowP 84 3 g ps.length cap (rpL ps) :: blk k4 zR 46 :: rowP 84 3 g' ps'.length cap' (rpL ps') :: X) ((List.perm_middle (l₁ := [_, _, _, _]) (l₂ := X)).symm)
      exact hp.dropX.dropX.dropX
    refine Dr.alloc h25 fun k15 w26 h26 => Dr.st1 (c := zR) (c' := #[.int .u64 (seq' : Int), .int .i64 0, .slice none 0 0]) h26 (show 0 < 3 by decide) rfl rfl fun w27 h27 => Dr.st1 (c' := #[.int .u64 (seq' : Int), .int .i64 row', .slice none 0 0]) h27 (show 1 < 3 by decide) rfl rfl fun w28 h28 => Dr.st1 (c' := rcC seq' row' (ptr g') ps'.length cap') h28 (show 2 < 3 by decide) rfl rfl fun w29 h29 => ?_
    refine ⟨_, _, _, _, _, ⟨h29.under.ld (c := rcC seq' row' (ptr g') ps'.length cap') List.mem_cons_self rfl, h29.under.ld (c := rcC seq' row' (ptr g') ps'.length cap') (i := 1) List.mem_cons_self rfl, h29.under.ld (c := rcC seq' row' (ptr g') ps'.length cap') (i := 2) List.mem_cons_self rfl⟩, ?_⟩
    refine Dr.st1 (c' := #[.int .u64 (seq' : Int), .int .i64 0, .slice none 0 0]) h29.dropX (show 0 < 3 by decide) rfl rfl fun w30 h30 => Dr.st1 (c' := #[.int .u64 (seq' : Int), .int .i64 row', .slice none 0 0]) h30 (show 1 < 3 by decide) rfl rfl fun w31 h31 => Dr.st1 (c' := rcC seq' row' (ptr g') ps'.length cap') h31 (show 2 < 3 by decide) rfl rfl fun w32 h32 => ?_
    refine ⟨_, _, _, _, _, ⟨h32.under.ld (c := rcC seq' row' (ptr g') ps'.length cap') List.mem_cons_self rfl, h32.under.ld (c := rcC seq' row' (ptr g') ps'.length cap') (i := 1) List.mem_cons_self rfl, h32.under.ld (c := rcC seq' row' (ptr g') ps'.length cap') (i := 2) List.mem_cons_self rfl⟩, g', cap', ?_, ?_⟩
    · rw [hrec]
      show Value.tuple #[_, .bool (e3 == 0)] = Value.tuple #[_, .bool (decide (e3 = 0))]
      have : (e3 == 0) = decide (e3 = 0) := by by_cases h0 : e3 = 0 <;> simp [h0]
      rw [this]; rfl
    · rw [hrec]; exact h32.dropX
end
end Go.Proofs.Ytbecjmfcppginaa
end
section
/-! ring: Open. -/
namespace Go.Proofs.Ytbecjmfcppginaa
open Go.Sh Go.RowKit
set_option linter.unusedVariables false
set_option linter.unusedSimpArgs false
set_option maxRecDepth 20000
set_option maxHeartbeats 1000000
/-- a record, and where its parts lie -/
abbrev RcX : Type := RcV × Option Nat × Nat
def rxC (x : RcX) : Array Value := rcC x.1.1 x.1.2.1 (ptr x.2.1) x.1.2.2.length x.2.2
def rxL (l : List RcX) : List Value := l.flatMap fun x => (rxC x).toList
def rxOwn (l : List RcX) : List A := l.map fun x => rowP 84 3 x.2.1 x.1.2.2.length x.2.2 (rpL x.1.2.2)
theorem rxL_snoc (l : List RcX) (x : RcX) : rxL l ++ (rxC x).toList = rxL (l ++ [x]) := by simp [rxL]
theorem rxL_len (l : List RcX) : (rxL l).length = l.length * 3 := by
  induction l with
  | nil => rfl
  | cons x l ih => simp [rxL, rxC, rcC] at ih ⊢; omega
theorem rxOwn_snoc (l : List RcX) (x : RcX) : rxOwn (l ++ [x]) = rxOwn l ++ [rowP 84 3 x.2.1 x.1.2.2.length x.2.2 (rpL x.1.2.2)] := by simp [rxOwn]
section
variable {q r S t n : Nat} {a : AD} {F : List Nat} {w0 w : World} {X : List A}
theorem Dr.read_64 (h : Dr q a F w0 w X) {i : Int} (h0 : (a.read i).2 = 0) : (a.read i).1.data.toList.length = 64 := by
  obtain ⟨D, _, hA, _⟩ := h
  show (a.read i).1.size = 64
  have hm : a.may i = 0 := by
    unfold AD.read at h0
    by_cases hm : a.may i = 0
    · exact hm
    · rw [if_pos hm] at h0; exact absurd h0 hm
  obtain ⟨l0, l1⟩ := AD.may_zero hm
  unfold AD.read at h0 ⊢
  rw [if_neg (by omega)] at h0 ⊢
  by_cases hs : a.spoilt i.toNat = true
  · rw [if_pos hs] at h0; cases h0
  rw [if_neg hs]
  have hs : ∀ s ∈ a.safe, s.size = 64 := by rw [← hA.safe]; exact hA.ok.s64
  have hp : ∀ s ∈ a.pend i.toNat, s.size = 64 := by
    rw [← hA.pend i.toNat]
    unfold pendW
    cases hf : D.ws.find? fun e => e.k == ((i.toNat : Nat) : Int) with
    | none => intro s hs; cases hs
    | some e => exact hA.ok.w64 e (List.mem_of_find?_eq_some hf)
  show (a.top i.toNat).size = 64
  unfold AD.top
  split
  · rename_i s he
    exact hp s (List.mem_of_getLast? he)
  · have hi : i.toNat < a.safe.length := by omega
    rw [List.getD_eq_getElem?_getD, List.getElem?_eq_getElem hi]
    exact hs _ (List.getElem_mem hi)
theorem open_ring (h : Dr q a F w0 w X) (hF : a.Few 1000000) (hlen : a.safe.length ≤ 4096) :
    Calls Try.prog 11 #[.pointer (some ⟨q, 0, none⟩)] w fun e w' =>
      ((openF a).2 ≠ 0 ∧ e = .returned (.tuple #[.pointer none, .slice none 0 0, .int .i64 (openF a).2]) ∧ Dr q a F w0 w' X) ∨
      ((openF a).2 = 0 ∧ 1 ≤ (slotsN (a.safe.length : Int)).toNat ∧ ∃ r g cap lx, e = .returned (.tuple #[.pointer (some ⟨r, 0, none⟩), .slice (ptr g) (lx : List RcX).length cap, .int .i64 0]) ∧ lx.map (·.1) = recsF a (slotsN (a.safe.length : Int)).toNat (slotsN (a.safe.length : Int)).toNat (((openF a).1 + 1) % 2 ^ 64) ∧
        Dr q a F w0 w' (blk r (rgC q (slotsN (a.safe.length : Int)).toNat (openF a).1 (((openF a).1 + 1 + lx.length) % 2 ^ 64)) 72 :: rowP 46 3 g lx.length cap (rxL lx) :: (rxOwn lx ++ X))) := by
  let R : Value → World → Prop := fun v w' => ((openF a).2 ≠ 0 ∧ v = (.tuple #[.pointer none, .slice none 0 0, .int .i64 (openF a).2]) ∧ Dr q a F w0 w' X) ∨
      ((openF a).2 = 0 ∧ 1 ≤ (slotsN (a.safe.length : Int)).toNat ∧ ∃ r g cap lx, v = (.tuple #[.pointer (some ⟨r, 0, none⟩), .slice (ptr g) (lx : List RcX).length cap, .int .i64 0]) ∧ lx.map (·.1) = recsF a (slotsN (a.safe.length : Int)).toNat (slotsN (a.safe.length : Int)).toNat (((openF a).1 + 1) % 2 ^ 64) ∧
        Dr q a F w0 w' (blk r (rgC q (slotsN (a.safe.length : Int)).toNat (openF a).1 (((openF a).1 + 1 + lx.length) % 2 ^ 64)) 72 :: rowP 46 3 g lx.length cap (rxL lx) :: (rxOwn lx ++ X)))
  refine (ring_Open_calls (R := R) ?_).mono fun e w' ⟨v, he, hv⟩ => ?_
  · have bad : ∀ (w' : World) (Δ : List A) (x : Int), Dr q a F w0 w' (Δ ++ X) → x ≠ 0 → (openF a).2 = x → R (.tuple #[.pointer none, .slice none 0 0, .int .i64 x]) w' := fun w' Δ x hh hx he => .inl ⟨by rw [he]; exact hx, by rw [he], Dr.back hh⟩
    obtain ⟨S, hS⟩ : ∃ S : Nat, slotsN (a.safe.length : Int) = (S : Int) := ⟨(slotsN (a.safe.length : Int)).toNat, by unfold slotsN; omega⟩
    have hS99 : S ≤ 99 := by unfold slotsN at hS; omega
    have hof : openF a = if (a.read 3).2 ≠ 0 then (0, (a.read 3).2)
      else if (openB (a.read 3).1.data.toList).2 = false ∨ (S : Int) = 0 then (0, 200)
      else if markB (leN (((openB (a.read 3).1.data.toList).1.drop 4).take 8)) ≠ (a.read 3).1.data.toList then (0, 200)
      else (leN (((openB (a.read 3).1.data.toList).1.drop 4).take 8), 0) := by unfold openF; rw [hS]
    have hgood : ∀ (v : Value) (w' : World) (t : Nat), openF a = (t, 0) → 1 ≤ S → (∃ r g cap lx, v = (.tuple #[.pointer (some ⟨r, 0, none⟩), .slice (ptr g) (lx : List RcX).length cap, .int .i64 0]) ∧ lx.map (·.1) = recsF a S S ((t + 1) % 2 ^ 64) ∧ Dr q a F w0 w' (blk r (rgC q S t ((t + 1 + lx.length) % 2 ^ 64)) 72 :: rowP 46 3 g lx.length cap (rxL lx) :: (rxOwn lx ++ X))) → R v w' := by
      intro v w' t ht h1 hv
      refine .inr ⟨by rw [ht], by rw [hS]; omega, ?_⟩
      rw [ht, hS]
      exact hv
    clear_value R
    unfold ring_Open
    refine (read_a h hF 3).mono fun e w1 ⟨he1, hx1⟩ => ⟨_, _, he1, ?_⟩
    have h1 := h.quiet hx1
    have h64 := h1.read_64 (i := 3)
    rw [← strB_data (a.read 3).1]
    generalize (a.read 3).1.data.toList = b at hof h64
    generalize (a.read 3).2 = er at hof h64
    refine ⟨bne_t fun hne => bad w1 [] er h1 hne (by rw [hof, if_pos hne]), bne_f fun heq => ?_⟩
    rw [if_neg (fun hn => hn heq)] at hof
    have h64 := h64 heq
    refine (sectors_spec h1).mono fun e w2 ⟨he2, hx2⟩ => ⟨_, he2, ?_⟩
    refine (slots_spec (a.safe.length : Int) (by omega) (by omega) w2).mono fun e w3 ⟨he3, hx3⟩ => ⟨_, he3, ?_⟩
    rw [hS]
    refine Dr.alloc ((h1.quiet hx2).quiet hx3) fun r w4 h4 => ?_
    have h4 : Dr q a F w0 w4 (blk r (rgC q S 0 0) 72 :: X) := h4
    refine (open_spec (strB b) (by rw [strB_size]; omega) w4).mono fun e w5 ⟨he5, hx5⟩ => ⟨_, _, he5, ?_⟩
    have eb : (strB b).data.toList = b := rfl
    rw [eb]
    have h5 := h4.quiet hx5
    refine ⟨not_t fun ho => bad w5 [_] 200 h5 (by decide) (by rw [hof, if_pos (Or.inl ho)]), not_f fun ho => ?_⟩
    refine ⟨_, rfl, (S : Int), by rw [addr_add]; exact h5.under.ld (c := rgC q S 0 0) List.mem_cons_self rfl, ?_⟩
    refine ⟨beq_t fun h0 => bad w5 [_] 200 h5 (by decide) (by rw [hof, if_pos (Or.inr h0)]), beq_f fun hn0 => ?_⟩
    rw [if_neg (by rw [ho]; simp; omega)] at hof
    rw [openB_take h64 ho] at hof ⊢
    have hl60 : (b.take 60).length = 60 := by rw [List.length_take]; omega
    have s1 := slice_mid (P := Try.prog) (t := 9) (k := .i64) (k' := .i64) (s := strB (b.take 60)) (lo := 4) (hi := 12) (w := w5) (by kernel_rfl) (by omega) (by omega) (by rw [strB_size, hl60]; omega)
    rw [strB_extract] at s1
    have e1 : (((b.take 60).drop (4 : Int).toNat).take ((12 : Int).toNat - (4 : Int).toNat)) = ((b.take 60).drop 4).take 8 := rfl
    rw [e1] at s1
    refine ⟨_, w5, s1, ?_⟩
    have hl8 : (((b.take 60).drop 4).take 8).length = 8 := by rw [List.length_take, List.length_drop]; omega
    generalize ((b.take 60).drop 4).take 8 = l8 at hof hl8
    have ht64 : leN l8 < 2 ^ 64 := by
      have := leN_lt l8
      rw [hl8] at this
      have q8 : (256 : Nat) ^ 8 = 2 ^ 64 := by decide
      omega
    refine Dr.alloc h5 fun k46 w7 h7 => ?_
    have h7 : Dr q a F w0 w7 (rowP 3 1 (some k46) 1 1 (ints [8]) :: blk r (rgC q S 0 0) 72 :: X) := Dr.blkRow h7 rfl rfl (by decide)
    refine Dr.intoT (Y := []) h7 fun Γ hT hback => ?_
    refine (decode_spec (ws := [8]) rwid8 (s := strB l8) (by rw [strB_size, hl8]; rfl) hT (g2 := some k46) (n2 := 1) (c2 := 1) rfl List.mem_cons_self).mono fun e w8 ⟨bd, he8, hT8⟩ => ⟨_, _, _, _, he8, ?_⟩
    have ed : decP (strB l8).data.toList [8] = [leN l8] := by
      show [leN (l8.take 8)] = _
      rw [List.take_of_length_le (by omega)]
    rw [ed] at hT8
    have h8 := hback w8 [_] hT8
    generalize leN l8 = t at hof ht64 hT8 h8
    have h8 : Dr q a F w0 w8 (rowP 34 1 (some bd) 1 1 (u64s [t]) :: rowP 3 1 (some k46) 1 1 (ints [8]) :: blk r (rgC q S 0 0) 72 :: X) := h8
    refine ⟨bne_t fun hne => absurd rfl hne, bne_f fun _ => ?_⟩
    refine ⟨_, rfl, by omega, by decide, _, rowP.cell (k := 0) (h8.under.says List.mem_cons_self) rfl, ?_⟩
    refine (mark_spec ht64 w8).mono fun e w9 ⟨he9, hx9⟩ => ⟨_, he9, ?_⟩
    have h9 := h8.quiet hx9
    rw [strB_toList, strB_toList]
    refine ⟨not_t fun hm => bad w9 [_, _, _] 200 h9 (by decide) (by rw [hof, if_pos (by simpa using hm)]), not_f fun hm => ?_⟩
    rw [if_neg (by simpa using hm)] at hof
    have h9d := Dr.rdrew h9
    have cellU : ∀ {w' : World} {Δ : List A}, Dr q a F w0 w' Δ → rowP 34 1 (some bd) 1 1 (u64s [t]) ∈ Δ → w'.cell? ⟨bd, 0, none⟩ = some (.int .u64 (t : Int)) := fun hh hm => rowP.cell (k := 0) (hh.under.says hm) rfl
    refine ⟨fun w' => ∃ Δ, rowP 34 1 (some bd) 1 1 (u64s [t]) ∈ Δ ∧ Dr q a F w0 w' Δ, ⟨_, List.mem_cons_self, h9d⟩, _, rfl, by omega, by decide, (t : Int), fun w' ⟨Δ, hm', h'⟩ => cellU h' hm', _, rfl, by omega, by decide, (t : Int), fun w' ⟨Δ, hm', h'⟩ => cellU h' hm', _, rfl, ?_⟩
    have h9p := Dr.perm h9d (X' := blk r (rgC q S 0 0) 72 :: rowP 34 1 (some bd) 1 1 (u64s [t]) :: rowP 3 1 (some k46) 1 1 (ints [8]) :: X) ((List.perm_middle (l₁ := [_, _]) (l₂ := X)))
    rw [addr_add]
    refine Dr.st1 (c' := rgC q S t 0) h9p (show 0 + 2 < 4 by decide) rfl rfl fun w10 h10 => ⟨⟨_, List.mem_cons_of_mem _ List.mem_cons_self, h10⟩, _, rfl, ?_⟩
    rw [addr_add]
    have ew : IntKind.u64.wrap ((t : Int) + 1) = (((t + 1) % 2 ^ 64 : Nat) : Int) := by rw [wrapU64]; omega
    rw [ew]
    refine Dr.st1 (c' := rgC q S t ((t + 1) % 2 ^ 64)) h10 (show 0 + 3 < 4 by decide) rfl rfl fun w11 h11 => ?_
    refine Join.intro fun J hJ => ?_
    refine ⟨fun vs w' => ∃ (lx : List RcX) (g : Option Nat) (cap : Nat), vs = [.slice (ptr g) lx.length cap] ∧ lx.length ≤ S ∧ recsF a S S ((t + 1) % 2 ^ 64) = lx.map (·.1) ++ recsF a S (S - lx.length) ((t + 1 + lx.length) % 2 ^ 64) ∧ Dr q a F w0 w' (rowP 46 3 g lx.length cap (rxL lx) :: blk r (rgC q S t ((t + 1 + lx.length) % 2 ^ 64)) 72 :: (rxOwn lx ++ X)), fun vs _ => match vs with | [.slice _ l _] => S - l | _ => 0, ⟨[], none, 0, rfl, Nat.zero_le _, rfl, ?_⟩, ?_⟩
    · have hp := Dr.perm h11 (X' := rowP 34 1 (some bd) 1 1 (u64s [t]) :: rowP 3 1 (some k46) 1 1 (ints [8]) :: blk r (rgC q S t ((t + 1) % 2 ^ 64)) 72 :: X) ((List.perm_middle (l₁ := [_, _]) (l₂ := X)).symm)
      exact Dr.nilRow hp.dropX.dropX _ _
    rintro vs w13 ⟨lx, g, cap, rfl, hlx, hrs, h13⟩
    have hfin : ∀ (w' : World), recsF a S (S - lx.length) ((t + 1 + lx.length) % 2 ^ 64) = [] → Dr q a F w0 w' (rowP 46 3 g lx.length cap (rxL lx) :: blk r (rgC q S t ((t + 1 + lx.length) % 2 ^ 64)) 72 :: (rxOwn lx ++ X)) → J [.slice (ptr g) lx.length cap] w' := by
      intro w' he hh
      refine hJ _ _ ⟨_, _, _, rfl, hgood _ _ t hof (by omega) ⟨r, g, cap, lx, rfl, by rw [hrs, he, List.append_nil], Dr.perm hh (.swap _ _ _)⟩⟩
    refine ⟨_, _, _, rfl, _, rfl, (S : Int), by rw [addr_add]; exact h13.under.ld (c := rgC q S t ((t + 1 + lx.length) % 2 ^ 64)) (List.mem_cons_of_mem _ List.mem_cons_self) rfl, dec_t fun hlt => ?_, dec_f fun hge => ?_⟩
    · have hlt : lx.length < S := by omega
      refine ⟨_, rfl, _, by rw [addr_add]; exact h13.under.ld (c := rgC q S t ((t + 1 + lx.length) % 2 ^ 64)) (List.mem_cons_of_mem _ List.mem_cons_self) rfl, ?_⟩
      have hmlt : (t + 1 + lx.length) % 2 ^ 64 < 2 ^ 64 := Nat.mod_lt _ (by decide)
      have hrec := record_spec h13 (List.mem_cons_of_mem _ List.mem_cons_self) hF (by omega) (by omega) hmlt
      have hone : recsF a S (S - lx.length) ((t + 1 + lx.length) % 2 ^ 64) = if (recF a S ((t + 1 + lx.length) % 2 ^ 64)).2 then (recF a S ((t + 1 + lx.length) % 2 ^ 64)).1 :: recsF a S (S - (lx.length + 1)) ((t + 1 + (lx.length + 1)) % 2 ^ 64) else [] := by
        obtain ⟨k, hk⟩ : ∃ k, S - lx.length = k + 1 := ⟨S - lx.length - 1, by omega⟩
        rw [hk, show S - (lx.length + 1) = k by omega, show (t + 1 + (lx.length + 1)) % 2 ^ 64 = ((t + 1 + lx.length) % 2 ^ 64 + 1) % 2 ^ 64 by omega]
        rfl
      generalize recF a S ((t + 1 + lx.length) % 2 ^ 64) = d at hrec hone
      obtain ⟨⟨sq, row, ps⟩, ok⟩ := d
      refine hrec.mono fun e w14 ⟨gp, cp, he14, h14⟩ => ⟨_, _, _, _, _, _, he14, ?_⟩
      have h14 : Dr q a F w0 w14 (rowP 84 3 gp ps.length cp (rpL ps) :: rowP 46 3 g lx.length cap (rxL lx) :: blk r (rgC q S t ((t + 1 + lx.length) % 2 ^ 64)) 72 :: (rxOwn lx ++ X)) := h14
      refine Dr.alloc h14 fun k13 w15 h15 => Dr.st1 (c := zR) (c' := #[.int .u64 (sq : Int), .int .i64 0, .slice none 0 0]) h15 (show 0 < 3 by decide) rfl rfl fun w16 h16 => Dr.st1 (c' := #[.int .u64 (sq : Int), .int .i64 row, .slice none 0 0]) h16 (show 1 < 3 by decide) rfl rfl fun w17 h17 => Dr.st1 (c' := rcC sq row (ptr gp) ps.length cp) h17 (show 2 < 3 by decide) rfl rfl fun w18 h18 => ?_
      refine ⟨not_t fun ho => hfin w18 (by rw [hone]; exact if_neg (by rw [show ok = false from ho]; simp)) h18.dropX.dropX, not_f fun ho => ?_⟩
      have ho : ok = true := ho
      subst ho
      have hone : recsF a S (S - lx.length) ((t + 1 + lx.length) % 2 ^ 64) = (sq, row, ps) :: recsF a S (S - (lx.length + 1)) ((t + 1 + (lx.length + 1)) % 2 ^ 64) := hone
      refine ⟨_, _, _, _, _, ⟨h18.under.ld (c := rcC sq row (ptr gp) ps.length cp) List.mem_cons_self rfl, h18.under.ld (c := rcC sq row (ptr gp) ps.length cp) (i := 1) List.mem_cons_self rfl, h18.under.ld (c := rcC sq row (ptr gp) ps.length cp) (i := 2) List.mem_cons_self rfl⟩, ?_⟩
      refine Dr.pushN (t := 31) (i := Try.t46) (z := .agg #[.int .u64 0, .int .i64 0, .slice none 0 0]) (c := rcC sq row (ptr gp) ps.length cp) (size := 3) (by kernel_rfl) (by kernel_rfl) (by kernel_rfl) (by kernel_rfl) (by kernel_rfl) (by kernel_rfl) h18 (.tail (.tail .head)) rfl (fun u hu => ?_) (by omega) fun g' cap' w20 h20 => ?_
      · have hu : u ∈ [Value.int .u64 (sq : Int), .int .i64 row, .slice (ptr gp) ps.length cp] := hu
        simp only [List.mem_cons, List.not_mem_nil, or_false] at hu
        rcases hu with rfl | rfl | rfl <;> rfl
      · have hsn : rxL lx ++ (rcC sq row (ptr gp) ps.length cp).toList = rxL (lx ++ [((sq, row, ps), gp, cp)]) := rxL_snoc lx ((sq, row, ps), gp, cp)
        rw [hsn] at h20
        refine ⟨_, rfl, _, by rw [addr_add]; exact h20.under.ld (c := rgC q S t ((t + 1 + lx.length) % 2 ^ 64)) (List.mem_cons_of_mem _ (List.mem_cons_of_mem _ (List.mem_cons_of_mem _ List.mem_cons_self))) rfl, _, rfl, ?_⟩
        have h20p := Dr.perm h20 (X' := blk r (rgC q S t ((t + 1 + lx.length) % 2 ^ 64)) 72 :: rowP 46 3 g' (lx.length + 1) cap' (rxL (lx ++ [((sq, row, ps), gp, cp)])) :: blk k13 (rcC sq row (ptr gp) ps.length cp) 46 :: rowP 84 3 gp ps.length cp (rpL ps) :: (rxOwn lx ++ X)) (List.perm_middle (l₁ := [_, _, _]) (l₂ := rxOwn lx ++ X))
        rw [addr_add]
        have ew : IntKind.u64.wrap ((((t + 1 + lx.length) % 2 ^ 64 : Nat) : Int) + 1) = (((t + 1 + (lx.length + 1)) % 2 ^ 64 : Nat) : Int) := by rw [wrapU64]; omega
        rw [ew]
        refine Dr.st1 (c' := rgC q S t ((t + 1 + (lx.length + 1)) % 2 ^ 64)) h20p (show 0 + 3 < 4 by decide) rfl rfl fun w21 h21 => ?_
        have hl1 : (lx ++ [((sq, row, ps), gp, cp)]).length = lx.length + 1 := by rw [List.length_append]; rfl
        refine ⟨⟨lx ++ [((sq, row, ps), gp, cp)], g', cap', by rw [hl1], by rw [hl1]; omega, by rw [hrs, hone, hl1, List.map_append, List.append_assoc]; rfl, ?_⟩, ?_⟩
        · rw [hl1, rxOwn_snoc]
          have p1 := (Dr.perm h21 (List.perm_middle (l₁ := [_, _]))).dropX
          refine Dr.perm p1 ((List.Perm.swap _ _ _).trans (List.Perm.cons _ (List.Perm.cons _ ?_)))
          rw [List.append_assoc]
          exact List.perm_middle.symm
        · show S - (lx.length + 1) < S - lx.length
          omega
    · exact hfin w13 (by rw [show S - lx.length = 0 by omega]; rfl) h13
  · rcases hv with ⟨h1, h2, h3⟩ | ⟨h1, h2, r, g, cap, lx, h3, h4⟩
    · exact .inl ⟨h1, by rw [he, h2], h3⟩
    · exact .inr ⟨h1, h2, r, g, cap, lx, by rw [he, h3], h4⟩
end
end Go.Proofs.Ytbecjmfcppginaa
end
section
/-! super: superblocks as values; when two are the same. -/
namespace Go.Proofs.Ytbecjmfcppginaa
open Go.Sh Go.RowKit
set_option linter.unusedVariables false
set_option maxRecDepth 20000
set_option maxHeartbeats 1000000
structure SupV where
  uuid : Int
  events : Int
  role : Int
  cols : Int
  chunk : Int
  rows : Int
  clean : Bool
  built : Int
  new : Int
  grown : Int
deriving DecidableEq
def supC (a : SupV) : Array Value := #[.int .u64 a.uuid, .int .u64 a.events, .int .i64 a.role, .int .i64 a.cols, .int .i64 a.chunk, .int .i64 a.rows, .bool a.clean, .int .i64 a.built, .int .i64 a.new, .int .i64 a.grown]
abbrev sup0 : SupV := ⟨0, 0, 0, 0, 0, 0, false, 0, 0, 0⟩
theorem pt0 (a : SupV) (w : World) : (part 34 (supC a) 0).run Try.prog w = .ok (.int .u64 a.uuid) w := by kernel_rfl
theorem pt1 (a : SupV) (w : World) : (part 34 (supC a) 1).run Try.prog w = .ok (.int .u64 a.events) w := by kernel_rfl
theorem pt2 (a : SupV) (w : World) : (part 3 (supC a) 2).run Try.prog w = .ok (.int .i64 a.role) w := by kernel_rfl
theorem pt6 (a : SupV) (w : World) : (part 4 (supC a) 6).run Try.prog w = .ok (.bool a.clean) w := by kernel_rfl
theorem pt7 (a : SupV) (w : World) : (part 3 (supC a) 7).run Try.prog w = .ok (.int .i64 a.built) w := by kernel_rfl
theorem pt8 (a : SupV) (w : World) : (part 3 (supC a) 8).run Try.prog w = .ok (.int .i64 a.new) w := by kernel_rfl
theorem pt9 (a : SupV) (w : World) : (part 3 (supC a) 9).run Try.prog w = .ok (.int .i64 a.grown) w := by kernel_rfl
theorem pg0 (a b c : Int) (w : World) : (part 3 #[.int .i64 a, .int .i64 b, .int .i64 c] 0).run Try.prog w = .ok (.int .i64 a) w := by kernel_rfl
theorem pg1 (a b c : Int) (w : World) : (part 3 #[.int .i64 a, .int .i64 b, .int .i64 c] 1).run Try.prog w = .ok (.int .i64 b) w := by kernel_rfl
theorem pg2 (a b c : Int) (w : World) : (part 3 #[.int .i64 a, .int .i64 b, .int .i64 c] 2).run Try.prog w = .ok (.int .i64 c) w := by kernel_rfl
theorem eq_u64 (d : Nat) (w : World) (a b : Int) : (Op.equalIn (d + 1) 34 (.int .u64 a) (.int .u64 b)).run Try.prog w = .ok (a == b) w := run_equalIn_int w d 34 .u64 .u64 a b (by kernel_rfl)
theorem eq_int (d : Nat) (w : World) (a b : Int) : (Op.equalIn (d + 1) 3 (.int .i64 a) (.int .i64 b)).run Try.prog w = .ok (a == b) w := run_equalIn_int w d 3 .i64 .i64 a b (by kernel_rfl)
theorem eq_bool (d : Nat) (w : World) (a b : Bool) : (Op.equalIn (d + 1) 4 (.bool a) (.bool b)).run Try.prog w = .ok (a == b) w := run_equalIn_bool' w d 4 a b (by kernel_rfl)
theorem eqStep {P : Program} {w : World} {d : Nat} {xs ys : Array Value} {fs : List Field} {a b : Value} {r : Bool} (nm : String) (ty : TypeId) (o : Nat) (e : Bool) (s1 s2 : String) (by_ : Nat) (hf : nm ≠ "_") (ha : (part ty xs o).run P w = .ok a w) (hb : (part ty ys o).run P w = .ok b w) (he : (Op.equalIn d ty a b).run P w = .ok r w)
    {q : Bool} (hr : (Op.eqFields d xs ys fs).run P w = .ok q w) : (Op.eqFields d xs ys (Field.mk nm ty o e s1 s2 by_ :: fs)).run P w = .ok (r && q) w := by
  simp only [Op.eqFields, if_pos hf, Sem.run_bind, ha, hb, he, Result.andThen_ok]
  cases r
  · simp
  · simp [hr]
theorem eqNil {P : Program} {w : World} {d : Nat} {xs ys : Array Value} : (Op.eqFields d xs ys []).run P w = .ok true w := by simp [Op.eqFields]
end Go.Proofs.Ytbecjmfcppginaa
end
