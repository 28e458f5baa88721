import Derived.Test.YtbecjmfcppginaaGreatM2
import Derived.Test.YtbecjmfcppginaaGreatM3
import Derived.Test.YtbecjmfcppginaaGreatM9
import Derived.Test.YtbecjmfcppginaaGreatM10
import Derived.Test.YtbecjmfcppginaaGreatM12
import Derived.Test.YtbecjmfcppginaaGreatM13
section
/-! law13: full, some, heavy, theirs; Same. -/
namespace Go.Proofs.YtbecjmfcppginaaGreat
open Go.Sh Go.RowKit Go.Maps
set_option linter.unusedVariables false
set_option linter.unusedSimpArgs false
set_option maxRecDepth 20000
set_option maxHeartbeats 1000000
theorem rfull_spec (s : ByteArray) (hs : s.size ≤ 9000000000000000000) (w : World) : Ret Tryz.prog 17 #[.string s] w (.string (fullB s)) := by
  refine ret_of (revetmentlaw13_full_calls ?_)
  unfold revetmentlaw13_full
  refine (blank_spec w).mono fun e w1 ⟨he, hx⟩ => ⟨_, he, by rw [zeroSec_size]; omega, _, _, slice_to (by kernel_rfl) (by omega) (by rw [ByteArray.size_append, zeroSec_size]; omega), rfl, hx⟩
/-- parts of some texts -/
def someP (i : Nat) (s : ByteArray) : RP := ⟨(i : Int), ((i % 4 : Nat) : Int), (fullB s).data.toList⟩
def someL (l : List ByteArray) : List RP := (l.take 8).mapIdx someP
theorem someL_len (l : List ByteArray) : (someL l).length = min 8 l.length := by unfold someL; rw [List.length_mapIdx, List.length_take]
theorem someL_get {l : List ByteArray} {j : Nat} {x : RP} (h : (someL l)[j]? = some x) : j < 8 ∧ ∃ s, l[j]? = some s ∧ x = someP j s := by
  unfold someL at h
  rw [List.getElem?_mapIdx, List.getElem?_take] at h
  by_cases hj : j < 8
  · rw [if_pos hj] at h
    cases hl : l[j]? with
    | none => rw [hl] at h; cases h
    | some s => rw [hl] at h; cases h; exact ⟨hj, s, rfl, rfl⟩
  · rw [if_neg hj] at h; cases h
theorem someL_nodup (l : List ByteArray) : ((someL l).map fun x => (x.col, x.off)).Nodup := by
  rw [List.nodup_iff_pairwise_ne, List.pairwise_iff_getElem]
  intro i j hi hj hij
  rw [List.getElem_map, List.getElem_map]
  rw [List.length_map] at hi hj
  obtain ⟨_, s, _, e1⟩ := someL_get (List.getElem?_eq_getElem hi)
  obtain ⟨_, t, _, e2⟩ := someL_get (List.getElem?_eq_getElem hj)
  rw [e1, e2]
  intro e
  have := (Prod.mk.inj e).1
  have : (i : Int) = (j : Int) := this
  omega
theorem someL_ok {l : List ByteArray} (h : l ≠ []) {row : Int} (h0 : 0 ≤ row) (h1 : row < 256) : PlacedR row (someL l) ∧ LoadedR (someL l) := by
  have hl : 0 < l.length := List.length_pos_iff.2 h
  refine ⟨⟨h0, h1, by rw [someL_len]; omega, by rw [someL_len]; omega, fun x hx => ?_, someL_nodup l⟩, fun x hx => ?_⟩
  · obtain ⟨j, hj⟩ := List.mem_iff_getElem?.1 hx
    obtain ⟨h8, s, _, rfl⟩ := someL_get hj
    show 0 ≤ (j : Int) ∧ (j : Int) < 10 ∧ 0 ≤ ((j % 4 : Nat) : Int) ∧ ((j % 4 : Nat) : Int) < 4
    omega
  · obtain ⟨j, hj⟩ := List.mem_iff_getElem?.1 hx
    obtain ⟨h8, s, _, rfl⟩ := someL_get hj
    exact fullB_size s
theorem someL_next {l : List ByteArray} {i : Nat} (hi : i < l.length) (h8 : i < 8) : someL (l.take (i + 1)) = someL (l.take i) ++ [someP i (l.getD i noB)] := by
  unfold someL
  rw [List.take_take, List.take_take, Nat.min_eq_right (by omega), Nat.min_eq_right (by omega), List.take_add_one, List.getElem?_eq_getElem hi, List.getD_eq_getElem?_getD, List.getElem?_eq_getElem hi]
  show List.mapIdx someP (l.take i ++ [l[i]]) = _
  rw [List.mapIdx_append]
  rw [List.length_take, Nat.min_eq_left (by omega)]
  simp [List.mapIdx_cons]
theorem someL_take {l : List ByteArray} {i : Nat} (h : i = l.length ∨ 8 ≤ i) : someL (l.take i) = someL l := by
  unfold someL
  rw [List.take_take]
  rcases h with rfl | h
  · congr 1
    rcases Nat.le_total 8 l.length with h2 | h2
    · rw [Nat.min_eq_left h2]
    · rw [Nat.min_eq_right h2, List.take_of_length_le (by omega), List.take_of_length_le h2]
  · rw [Nat.min_eq_left h]
theorem rpL_snoc' (l : List RP) (x : RP) : rpL l ++ (rpC x).toList = rpL (l ++ [x]) := by simp [rpL]
theorem blk_rowN {F : List Nat} {w0 w : World} {Γ : List A} {k : Nat} {e : TypeId} {c : Array Value} {size : Nat} (hT : T F w0 w (blk k c e :: Γ)) (hc : c = #[]) : T F w0 w (rowP e size (some k) 0 0 [] :: Γ) :=
  hT.weak rfl fun g hg => ⟨by simp, Nat.le_refl _, by simp only [maxLen]; omega, c, hg, by rw [hc]; simp, by simp⟩
section
variable {w0 w : World} {Γ : List A}
theorem some_spec {F : List Nat} (hT : T F w0 w Γ) {p : Option Addr} {l : List ByteArray} {c : Nat} (hs : ∀ w' Δ, T F w0 w' (Δ ++ Γ) → strsAt w' p l) (hk : ∀ s ∈ l, s.size ≤ 100) (hl : l.length ≤ 1000000) :
    Calls Tryz.prog 23 #[.slice p l.length c] w fun e w' => ∃ g cap, e = .returned (.slice (ptr g) (someL l).length cap) ∧ T F w0 w' (rowP 71 3 g (someL l).length cap (rpL (someL l)) :: Γ) := by
  refine (revetmentlaw13_some_calls (R := fun v w' => ∃ g cap, v = .slice (ptr g) (someL l).length cap ∧ T F w0 w' (rowP 71 3 g (someL l).length cap (rpL (someL l)) :: Γ)) ?_).mono fun e w' ⟨v, he, g, cap, hv, h⟩ => ⟨g, cap, by rw [he, hv], h⟩
  unfold revetmentlaw13_some
  refine Alloc.t hT fun k5 w1 h1 => ?_
  have h1 : T F w0 w1 (rowP 71 3 (some k5) 0 0 [] :: Γ) := blk_rowN h1 rfl
  refine ⟨fun vs w' => ∃ (i : Nat) (g : Option Nat) (cap : Nat), vs = [.slice (ptr g) i cap, .int .i64 (i : Int)] ∧ i ≤ l.length ∧ i ≤ 8 ∧ T F w0 w' (rowP 71 3 g i cap (rpL (someL (l.take i))) :: Γ), fun vs _ => match vs with | [_, .int _ i] => (l.length - i).toNat | _ => 0, ⟨0, some k5, 0, rfl, by omega, by omega, h1⟩, ?_⟩
  rintro vs w2 ⟨i, g, cap, rfl, hi, hi8, h2⟩
  have hfin : (i = l.length ∨ 8 ≤ i) → ∃ g' cap', Value.slice (ptr g) i cap = .slice (ptr g') (someL l).length cap' ∧ T F w0 w2 (rowP 71 3 g' (someL l).length cap' (rpL (someL l)) :: Γ) := fun hh => by
    have hn : (someL l).length = i := by rw [someL_len]; omega
    rw [someL_take hh] at h2
    rw [hn]
    exact ⟨g, cap, rfl, h2⟩
  refine ⟨_, _, _, _, rfl, dec_t fun hlt => ⟨dec_t fun h8 => ?_, dec_f fun h8 => hfin (by omega)⟩, dec_f fun hge => hfin (by omega)⟩
  have hlt : i < l.length := by omega
  obtain ⟨a, ha, hc⟩ := (hs w2 [_] h2).get (n := (i : Int)) (by omega) (by omega)
  rw [Int.toNat_natCast] at hc
  have hmem : l.getD i noB ∈ l := by rw [List.getD_eq_getElem?_getD, List.getElem?_eq_getElem hlt]; exact List.getElem_mem hlt
  have hsz := hk _ hmem
  have hnext := someL_next hlt (by omega)
  generalize l.getD i noB = s at hc hsz hnext
  refine ⟨a, ha, by omega, by omega, s, by rw [Int.toNat_natCast]; exact hc, ?_⟩
  refine (rfull_spec s (by omega) w2).mono fun e w3 ⟨he3, hx3⟩ => ⟨_, he3, ?_⟩
  have e4 : Int.tmod (i : Int) 4 = ((i % 4 : Nat) : Int) := by rw [Int.tmod_eq_emod_of_nonneg (by omega)]; omega
  rw [e4]
  refine pushN_t (P := Tryz.prog) (t := 43) (i := Tryz.t71) (z := .agg #[.int .i64 0, .int .i64 0, .string (ByteArray.mk #[])]) (c := rpC (someP i s)) (size := 3) (by kernel_rfl) (by kernel_rfl) (by kernel_rfl) (by kernel_rfl) (by kernel_rfl) (by kernel_rfl) (h2.quiet hx3) .head rfl (fun u hu => ?_) (by omega) fun g' cap' w28 h28 => ?_
  · have hu : u ∈ [Value.int .i64 (i : Int), .int .i64 ((i % 4 : Nat) : Int), .string (strB (fullB s).data.toList)] := hu
    simp only [List.mem_cons, List.not_mem_nil, or_false] at hu
    rcases hu with rfl | rfl | rfl <;> rfl
  · rw [rpL_snoc', ← hnext] at h28
    refine ⟨⟨i + 1, g', cap', ?_, by omega, by omega, h28⟩, ?_⟩
    · rw [wrap64 _ (by omega) (by omega)]; rfl
    · show ((l.length : Int) - IntKind.i64.wrap ((i : Int) + 1)).toNat < ((l.length : Int) - (i : Int)).toNat
      rw [wrap64 _ (by omega) (by omega)]; omega
theorem theirs_p {F : List Nat} (hT : T F w0 w Γ) {p : Option Addr} {c : Nat} {l : List RP} (hp : ∀ (w' : World) (Δ : List A), T F w0 w' (Δ ++ Γ) → partsAt w' p l) (hl : l.length ≤ 1000000) :
    Calls Tryz.prog 26 #[.slice p l.length c] w fun e w' => ∃ g' cap, e = .returned (.slice (ptr g') l.length cap) ∧ T F w0 w' (rowP 115 3 g' l.length cap (rpL l) :: Γ) := by
  refine (revetmentlaw13_theirs_calls (R := fun v w' => ∃ g' cap, v = .slice (ptr g') l.length cap ∧ T F w0 w' (rowP 115 3 g' l.length cap (rpL l) :: Γ)) ?_).mono fun e w' ⟨v, he, g, cap, hv, h⟩ => ⟨g, cap, by rw [he, hv], h⟩
  unfold revetmentlaw13_theirs
  refine Alloc.t hT fun k5 w1 h1 => ?_
  have h1 : T F w0 w1 (rowP 115 3 (some k5) 0 0 [] :: Γ) := blk_rowN h1 rfl
  refine ⟨fun vs w' => ∃ (i : Nat) (g' : Option Nat) (cap : Nat), vs = [.slice (ptr g') i cap, .int .i64 (i : Int)] ∧ i ≤ l.length ∧ T F w0 w' (rowP 115 3 g' i cap (rpL (l.take i)) :: Γ), fun vs _ => match vs with | [_, .int _ i] => (l.length - i).toNat | _ => 0, ⟨0, some k5, 0, rfl, by omega, h1⟩, ?_⟩
  rintro vs w2 ⟨i, g2, cap, rfl, hi, h2⟩
  refine ⟨_, _, _, _, rfl, dec_t fun hlt => ?_, dec_f fun hge => ?_⟩
  · have hlt : i < l.length := by omega
    obtain ⟨a, ha, c0, c1, c2⟩ := (hp w2 [_] h2).get hlt
    have hnext : rpL (l.take i) ++ (rpC l[i]).toList = rpL (l.take (i + 1)) := by
      rw [rpL_snoc', List.take_add_one, List.getElem?_eq_getElem hlt]; rfl
    generalize l[i] = x at c0 c1 c2 hnext
    refine ⟨a, ha, by omega, by omega, _, _, _, ⟨by rw [Int.toNat_natCast]; exact c0, by rw [Int.toNat_natCast]; exact c1, by rw [Int.toNat_natCast]; exact c2⟩, ?_⟩
    refine pushN_t (P := Tryz.prog) (t := 61) (i := Tryz.t115) (z := .agg #[.int .i64 0, .int .i64 0, .string (ByteArray.mk #[])]) (c := rpC x) (size := 3) (by kernel_rfl) (by kernel_rfl) (by kernel_rfl) (by kernel_rfl) (by kernel_rfl) (by kernel_rfl) h2 .head rfl (fun u hu => ?_) (by omega) fun g' cap' w28 h28 => ?_
    · have hu : u ∈ [Value.int .i64 x.col, .int .i64 x.off, .string (strB x.data)] := hu
      simp only [List.mem_cons, List.not_mem_nil, or_false] at hu
      rcases hu with rfl | rfl | rfl <;> rfl
    · rw [hnext] at h28
      refine ⟨⟨i + 1, g', cap', ?_, by omega, h28⟩, ?_⟩
      · rw [wrap64 _ (by omega) (by omega)]; rfl
      · show ((l.length : Int) - IntKind.i64.wrap ((i : Int) + 1)).toNat < ((l.length : Int) - (i : Int)).toNat
        rw [wrap64 _ (by omega) (by omega)]; omega
  · have hie : i = l.length := by omega
    subst hie
    rw [List.take_length] at h2
    exact ⟨g2, cap, rfl, h2⟩
theorem theirs_spec {F : List Nat} (hT : T F w0 w Γ) {g : Option Nat} {c : Nat} {l : List RP} (hm : rowP 71 3 g l.length c (rpL l) ∈ Γ) (hl : l.length ≤ 1000000) :
    Calls Tryz.prog 26 #[.slice (ptr g) l.length c] w fun e w' => ∃ g' cap, e = .returned (.slice (ptr g') l.length cap) ∧ T F w0 w' (rowP 115 3 g' l.length cap (rpL l) :: Γ) := theirs_p hT (fun w' Δ h => (T.parts h (List.mem_append_right _ hm)).1) hl
end
/-- too much for the statements -/
def heavyR (L : List ByteArray) : Bool := decide (20 < L.length) || L.any fun x => decide (100 < x.size)
theorem rheavy_spec {L : List ByteArray} {p : Option Addr} {c : Nat} {w : World} (h : strsAt w p L) : Ret Tryz.prog 32 #[.slice p L.length c] w (.bool (heavyR L)) := by
  refine ret_of (revetmentlaw13_heavy_calls ?_)
  unfold revetmentlaw13_heavy
  refine ⟨dec_t fun h1 => ⟨?_, Ext.refl w⟩, dec_f fun h1 => ?_⟩
  · unfold heavyR; rw [decide_eq_true (by omega)]; rfl
  refine ⟨fun vs w' => w' = w ∧ ∃ i : Nat, vs = [.int .i64 (i : Int)] ∧ i ≤ L.length ∧ (L.take i).any (fun x => decide (100 < x.size)) = false, fun vs _ => match vs with | [.int _ i] => (L.length - i).toNat | _ => 0, ⟨rfl, 0, rfl, by omega, rfl⟩, ?_⟩
  rintro vs w1 ⟨rfl, i, rfl, hi, hs⟩
  refine ⟨_, rfl, dec_t fun hlt => ?_, dec_f fun hge => ?_⟩
  · have hlt : i < L.length := by omega
    obtain ⟨a, ha, hc⟩ := h.get (n := (i : Int)) (by omega) (by omega)
    rw [Int.toNat_natCast] at hc
    have hg : L.getD i noB = L[i] := by simp [List.getD, hlt]
    refine ⟨a, ha, by omega, by omega, _, by rw [Int.toNat_natCast]; exact hc, ?_⟩
    rw [hg]
    refine ⟨dec_t fun hb => ⟨?_, Ext.refl _⟩, dec_f fun hb => ⟨⟨rfl, i + 1, ?_, by omega, ?_⟩, ?_⟩⟩
    · have : L.any (fun x => decide (100 < x.size)) = true := List.any_eq_true.2 ⟨L[i], List.getElem_mem hlt, decide_eq_true (by omega)⟩
      unfold heavyR; rw [this, Bool.or_true]
    · rw [wrap64 _ (by omega) (by omega)]; rfl
    · rw [List.take_add_one, List.getElem?_eq_getElem hlt, List.any_append, hs]
      simp; omega
    · show ((L.length : Int) - IntKind.i64.wrap ((i : Int) + 1)).toNat < ((L.length : Int) - (i : Int)).toNat
      rw [wrap64 _ (by omega) (by omega)]; omega
  · have hie : i = L.length := by omega
    subst hie
    rw [List.take_length] at hs
    refine ⟨?_, Ext.refl _⟩
    unfold heavyR
    rw [hs, decide_eq_false (by omega)]; rfl
theorem heavyR_short {L : List ByteArray} (h : heavyR L = false) : L.length ≤ 20 ∧ ∀ x ∈ L, x.size ≤ 100 := by
  unfold heavyR at h
  simp only [Bool.or_eq_false_iff, decide_eq_false_iff_not, List.any_eq_false, Bool.not_eq_true] at h
  obtain ⟨h1, h3⟩ := h
  exact ⟨by omega, fun x hx => by have := h3 x hx; omega⟩
theorem eq_strB (d : Nat) (w : World) (a b : List UInt8) : (Op.equalIn (d + 1) 9 (.string (strB a)) (.string (strB b))).run Tryz.prog w = .ok (decide (a = b)) w := by
  rw [run_equalIn_string w d 9 _ _ (by kernel_rfl), strB_toList, strB_toList]
  congr 1
  by_cases h : a = b
  · rw [decide_eq_true h, h]; simp
  · rw [decide_eq_false h]; simpa using h
theorem rpFields : (Tryz.prog.fieldsOf 115).toList = [Field.mk "Col" 3 0 false "" "" 0, Field.mk "Off" 3 1 false "" "" 8, Field.mk "Data" 9 2 false "" "" 16] := by kernel_rfl
theorem rp0 (a : RP) (w : World) : (part 3 (rpC a) 0).run Tryz.prog w = .ok (.int .i64 a.col) w := by kernel_rfl
theorem rp1 (a : RP) (w : World) : (part 3 (rpC a) 1).run Tryz.prog w = .ok (.int .i64 a.off) w := by kernel_rfl
theorem rp2 (a : RP) (w : World) : (part 9 (rpC a) 2).run Tryz.prog w = .ok (.string (strB a.data)) w := by kernel_rfl
theorem equal_rp (d : Nat) (a b : RP) (w : World) : (Op.equalIn (d + 2) 115 (.agg (rpC a)) (.agg (rpC b))).run Tryz.prog w = .ok (decide (a = b)) w := by
  rw [run_equalIn_agg w (d + 1) 115 _ _ (by kernel_rfl) (by kernel_rfl), rpFields]
  have h3 : (Op.eqFields (d + 1) (rpC a) (rpC b) []).run Tryz.prog w = .ok true w := eqNil
  have h2 := eqStep "Data" 9 2 false "" "" 16 (by decide) (rp2 a w) (rp2 b w) (eq_strB d _ _ _) h3
  have h1 := eqStep "Off" 3 1 false "" "" 8 (by decide) (rp1 a w) (rp1 b w) (eq_int d _ _ _) h2
  have h0 := eqStep "Col" 3 0 false "" "" 0 (by decide) (rp0 a w) (rp0 b w) (eq_int d _ _ _) h1
  refine h0.trans ?_
  congr 1
  obtain ⟨a0, a1, a2⟩ := a
  obtain ⟨b0, b1, b2⟩ := b
  simp only [RP.mk.injEq]
  rw [Bool.eq_iff_iff]
  simp
theorem neq_rp (a b : RP) (x y : Operand) (w : World) : (do eqGuard .neq 115 x y (.agg (rpC a)) (.agg (rpC b)); binOp .neq 115 (.agg (rpC a)) (.agg (rpC b)) : Sem Value).run Tryz.prog w = .ok (.bool (!decide (a = b))) w := by
  rw [Sem.run_bind, run_eqGuard_agg _ _ _ _ _ _ _ (by kernel_rfl), Result.andThen_ok, run_neq_struct, equal_rp 9998 a b w]
  rfl
theorem same12_spec {s1 s2 : Nat} {r1 r2 : Int} {p1 p2 : Option Addr} {c1 c2 : Nat} {l1 l2 : List RP} {w : World} (H1 : partsAt w p1 l1) (H2 : partsAt w p2 l2) (hl : l1.length ≤ 1000000) :
    Ret Tryz.prog 58 #[.agg (rcC s1 r1 p1 l1.length c1), .agg (rcC s2 r2 p2 l2.length c2)] w (.bool (decide (s1 = s2 ∧ r1 = r2 ∧ l1 = l2))) := by
  refine ret_of (revetmentref12_Same_calls ?_)
  unfold revetmentref12_Same
  refine Alloc.t (T.nil w) fun k2 w1 h1 => Alloc.t h1 fun k3 w2 h2 => ?_
  have h2 : T [] w w2 [blk k3 (rcC s2 r2 p2 l2.length c2) 99, blk k2 (rcC s1 r1 p1 l1.length c1) 99] := h2
  have bad : ∀ {w' : World}, Ext w w' → ¬ (s1 = s2 ∧ r1 = r2 ∧ l1 = l2) → RetR w (.bool (decide (s1 = s2 ∧ r1 = r2 ∧ l1 = l2))) (.bool false) w' := fun hx hn => ⟨by rw [decide_eq_false hn], hx⟩
  refine ⟨_, h2.ld (b := k2) (c := rcC s1 r1 p1 l1.length c1) (by repeat (first | exact List.Mem.head _ | refine List.Mem.tail _ ?_)) rfl, _, h2.ld (b := k3) (c := rcC s2 r2 p2 l2.length c2) (by repeat (first | exact List.Mem.head _ | refine List.Mem.tail _ ?_)) rfl, bne_t fun hne => bad h2.chg.ext (fun hp => by omega), bne_f fun he1 => ?_⟩
  refine ⟨_, h2.ld (b := k2) (c := rcC s1 r1 p1 l1.length c1) (i := 1) (by repeat (first | exact List.Mem.head _ | refine List.Mem.tail _ ?_)) rfl, _, h2.ld (b := k3) (c := rcC s2 r2 p2 l2.length c2) (i := 1) (by repeat (first | exact List.Mem.head _ | refine List.Mem.tail _ ?_)) rfl, bne_t fun hne => bad h2.chg.ext (fun hp => hne hp.2.1), bne_f fun he2 => ?_⟩
  refine ⟨_, _, _, h2.ld (b := k2) (c := rcC s1 r1 p1 l1.length c1) (i := 2) (by repeat (first | exact List.Mem.head _ | refine List.Mem.tail _ ?_)) rfl, _, _, _, h2.ld (b := k3) (c := rcC s2 r2 p2 l2.length c2) (i := 2) (by repeat (first | exact List.Mem.head _ | refine List.Mem.tail _ ?_)) rfl, bne_t fun hne => bad h2.chg.ext (fun hp => by rw [hp.2.2] at hne; exact hne rfl), bne_f fun he3 => ?_⟩
  have he1 : s1 = s2 := by omega
  have he3 : l1.length = l2.length := by omega
  refine ⟨fun vs w' => ∃ i : Nat, vs = [.int .i64 (i : Int)] ∧ i ≤ l1.length ∧ l1.take i = l2.take i ∧ T [] w w' [blk k3 (rcC s2 r2 p2 l2.length c2) 99, blk k2 (rcC s1 r1 p1 l1.length c1) 99], fun vs _ => match vs with | [.int _ i] => (l1.length - i).toNat | _ => 0, ⟨0, rfl, by omega, rfl, h2⟩, ?_⟩
  rintro vs w3 ⟨i, rfl, hi, hs, h3⟩
  refine ⟨_, rfl, _, _, _, h3.ld (b := k2) (c := rcC s1 r1 p1 l1.length c1) (i := 2) (by repeat (first | exact List.Mem.head _ | refine List.Mem.tail _ ?_)) rfl, dec_t fun hlt => ?_, dec_f fun hge => ?_⟩
  · have hlt : i < l1.length := by omega
    have hlt2 : i < l2.length := by omega
    refine ⟨fun w' => T [] w w' [blk k3 (rcC s2 r2 p2 l2.length c2) 99, blk k2 (rcC s1 r1 p1 l1.length c1) 99], h3.drew, _, _, _, fun w' h' => h'.ld (b := k2) (c := rcC s1 r1 p1 l1.length c1) (i := 2) (by repeat (first | exact List.Mem.head _ | refine List.Mem.tail _ ?_)) rfl, ?_⟩
    obtain ⟨a1, ha1, _⟩ := H1.get hlt
    obtain ⟨a2, ha2, _⟩ := H2.get hlt2
    have hn1 : l1.take (i + 1) = l1.take i ++ [l1[i]] := by rw [List.take_add_one, List.getElem?_eq_getElem hlt]; rfl
    have hn2 : l2.take (i + 1) = l2.take i ++ [l2[i]] := by rw [List.take_add_one, List.getElem?_eq_getElem hlt2]; rfl
    have cells1 : ∀ w', T [] w w' [blk k3 (rcC s2 r2 p2 l2.length c2) 99, blk k2 (rcC s1 r1 p1 l1.length c1) 99] → w'.cell? (Addr.add a1 (i * 3)) = some (.int .i64 (l1[i]).col) ∧ w'.cell? (Addr.add (Addr.add a1 (i * 3)) 1) = some (.int .i64 (l1[i]).off) ∧ w'.cell? (Addr.add (Addr.add a1 (i * 3)) 2) = some (.string (strB (l1[i]).data)) := fun w' h' => by
      obtain ⟨a, ha, hh⟩ := (H1.ext h'.chg.ext).get hlt
      rw [ha1] at ha; cases ha; exact hh
    have cells2 : ∀ w', T [] w w' [blk k3 (rcC s2 r2 p2 l2.length c2) 99, blk k2 (rcC s1 r1 p1 l1.length c1) 99] → w'.cell? (Addr.add a2 (i * 3)) = some (.int .i64 (l2[i]).col) ∧ w'.cell? (Addr.add (Addr.add a2 (i * 3)) 1) = some (.int .i64 (l2[i]).off) ∧ w'.cell? (Addr.add (Addr.add a2 (i * 3)) 2) = some (.string (strB (l2[i]).data)) := fun w' h' => by
      obtain ⟨a, ha, hh⟩ := (H2.ext h'.chg.ext).get hlt2
      rw [ha2] at ha; cases ha; exact hh
    have hx1 : l1[i] ∈ l1 := List.getElem_mem hlt
    have hdiff : l1[i] ≠ l2[i] → ¬ (s1 = s2 ∧ r1 = r2 ∧ l1 = l2) := fun hn hp => by
      have := hp.2.2
      subst this
      exact hn rfl
    generalize l1[i] = x at cells1 hn1 hdiff
    generalize l2[i] = y at cells2 hn2 hdiff
    refine ⟨a1, ha1, by omega, by omega, x.col, x.off, strB x.data, fun w' h' => by rw [Int.toNat_natCast]; exact cells1 w' h', _, _, _, fun w' h' => h'.ld (b := k3) (c := rcC s2 r2 p2 l2.length c2) (i := 2) (by repeat (first | exact List.Mem.head _ | refine List.Mem.tail _ ?_)) rfl, a2, ha2, by omega, by omega, y.col, y.off, strB y.data, fun w' h' => by rw [Int.toNat_natCast]; exact cells2 w' h', _, fun w' _ => neq_rp x y _ _ w', fun hb => ?_, fun hb => ⟨⟨i + 1, ?_, by omega, ?_, h3.drew⟩, ?_⟩⟩
    · refine bad h3.drew.chg.ext (hdiff fun e => ?_)
      rw [e] at hb; simp at hb
    · rw [wrap64 _ (by omega) (by omega)]; rfl
    · have : x = y := by simpa using hb
      rw [hn1, hn2, hs, this]
    · show ((l1.length : Int) - IntKind.i64.wrap ((i : Int) + 1)).toNat < ((l1.length : Int) - (i : Int)).toNat
      rw [wrap64 _ (by omega) (by omega)]; omega
  · have hie : i = l1.length := by omega
    subst hie
    rw [List.take_length, he3, List.take_length] at hs
    exact ⟨by rw [decide_eq_true ⟨he1, he2, hs⟩], h3.chg.ext⟩
theorem T.parts12 {F : List Nat} {w0 w : World} {Γ : List A} {g : Option Nat} {n cap : Nat} {l : List RP} (hT : T F w0 w Γ) (hm : rowP 115 3 g n cap (rpL l) ∈ Γ) : partsAt w (ptr g) l := by
  have hh := hT.says hm
  have hn : l.length = n := by have := rowP.len hh; rw [rpL_len] at this; omega
  refine ⟨fun hne => ?_, fun a ha j x hj m v hv => ?_⟩
  · have : 0 < l.length := List.length_pos_iff.2 hne
    obtain ⟨b, rfl⟩ := rowP.pos hh (by omega)
    exact ⟨_, rfl⟩
  · cases g with
    | none => cases ha
    | some b =>
      cases ha
      rw [addr_add, addr_add, Nat.zero_add]
      exact rowP.cell hh (rpL_get hj hv)
end Go.Proofs.YtbecjmfcppginaaGreat
end
section
/-! layout.Check (out of the layout's text). -/
namespace Go.Proofs.YtbecjmfcppginaaGreat
open Go.Sh
set_option linter.unusedVariables false
/-- a geometry that may be -/
def OkG (c k r : Int) : Prop := 4 ≤ c ∧ c ≤ 10 ∧ 1 ≤ k ∧ k ≤ 4 ∧ 1 ≤ r ∧ r ≤ 256
instance (c k r : Int) : Decidable (OkG c k r) := by unfold OkG; infer_instance
def CheckI (c k r : Int) (w : World) (vs : List Value) (w' : World) : Prop := ∃ i : Nat, vs = [.int .i64 i] ∧ i ≤ 3 ∧ Ext w w' ∧ (1 ≤ i → 4 ≤ c ∧ c ≤ 10) ∧ (2 ≤ i → 1 ≤ k ∧ k ≤ 4) ∧ (3 ≤ i → 1 ≤ r ∧ r ≤ 256)
def CheckM (vs : List Value) (_ : World) : Nat := match vs with | [.int _ i] => 3 - i.toNat | _ => 0
theorem checkI_next {c k r : Int} {w w' : World} (i : Nat) (hx : Ext w w') (hi : i < 3) (h1 : 4 ≤ c ∧ c ≤ 10) (h2 : 1 ≤ i → 1 ≤ k ∧ k ≤ 4) (h3 : 2 ≤ i → 1 ≤ r ∧ r ≤ 256) :
    CheckI c k r w [.int .i64 (IntKind.i64.wrap ((i : Int) + 1))] w' :=
  ⟨i + 1, by rw [wrap64 _ (by omega) (by omega)]; rfl, by omega, hx, fun _ => h1, fun h => h2 (by omega), fun h => h3 (by omega)⟩
theorem checkM_next (i : Nat) (w w' : World) (hi : i < 3) : CheckM [.int .i64 (IntKind.i64.wrap ((i : Int) + 1))] w' < CheckM [.int .i64 i] w := by
  rw [wrap64 _ (by omega) (by omega)]; simp only [CheckM]; omega
end Go.Proofs.YtbecjmfcppginaaGreat
end
section
/-! super: May, parts, widths. -/
namespace Go.Proofs.YtbecjmfcppginaaGreat
open Go.Sh Go.RowKit
set_option linter.unusedVariables false
set_option maxRecDepth 20000
set_option maxHeartbeats 1000000
/-- a superblock that may be, of a column of an array that does not grow -/
structure MayS (a : SupV) : Prop where
  uuid : 1 ≤ a.uuid ∧ a.uuid < 18446744073709551616
  events : 0 ≤ a.events ∧ a.events < 18446744073709551616
  role : 0 ≤ a.role ∧ a.role < a.cols
  cols : 4 ≤ a.cols ∧ a.cols ≤ 10
  chunk : 1 ≤ a.chunk ∧ a.chunk ≤ 4
  rows : 1 ≤ a.rows ∧ a.rows ≤ 256
  built : 0 ≤ a.built ∧ a.built ≤ a.rows
  new : a.new = 0
  grown : a.grown = 0
theorem rd10 {F : List Nat} {w0 w : World} {Γ : List A} {k : Nat} {t : TypeId} {a : SupV} (h : T F w0 w Γ) (hm : blk k (supC a) t ∈ Γ) {Q : Int → Int → Int → Int → Int → Int → Bool → Int → Int → Int → Prop} (hQ : Q a.uuid a.events a.role a.cols a.chunk a.rows a.clean a.built a.new a.grown) :
    ∃ n0 : Int, ∃ n1 : Int, ∃ n2 : Int, ∃ n3 : Int, ∃ n4 : Int, ∃ n5 : Int, ∃ b6 : Bool, ∃ n7 : Int, ∃ n8 : Int, ∃ n9 : Int, (w.cell? ⟨k, 0, none⟩ = some (.int .u64 n0) ∧ w.cell? ⟨k, 1, none⟩ = some (.int .u64 n1) ∧ w.cell? ⟨k, 2, none⟩ = some (.int .i64 n2) ∧ w.cell? ⟨k, 3, none⟩ = some (.int .i64 n3) ∧ w.cell? ⟨k, 4, none⟩ = some (.int .i64 n4) ∧ w.cell? ⟨k, 5, none⟩ = some (.int .i64 n5) ∧ w.cell? ⟨k, 6, none⟩ = some (.bool b6) ∧ w.cell? ⟨k, 7, none⟩ = some (.int .i64 n7) ∧ w.cell? ⟨k, 8, none⟩ = some (.int .i64 n8) ∧ w.cell? ⟨k, 9, none⟩ = some (.int .i64 n9)) ∧ Q n0 n1 n2 n3 n4 n5 b6 n7 n8 n9 :=
  ⟨_, _, _, _, _, _, _, _, _, _, ⟨h.ld hm rfl, h.ld hm rfl, h.ld hm rfl, h.ld hm rfl, h.ld hm rfl, h.ld hm rfl, h.ld hm rfl, h.ld hm rfl, h.ld hm rfl, h.ld hm rfl⟩, hQ⟩
/-- ten stores, one behind the other -/
theorem st10 {F : List Nat} {w0 w : World} {Γ : List A} {k : Nat} {t : TypeId} {a b : SupV} (hT : T F w0 w (blk k (supC a) t :: Γ)) {K : World → Prop} (hK : ∀ w', T F w0 w' (blk k (supC b) t :: Γ) → K w') :
    St ⟨k, 0, none⟩ (.int .u64 b.uuid) w fun w1 => St ⟨k, 1, none⟩ (.int .u64 b.events) w1 fun w2 => St ⟨k, 2, none⟩ (.int .i64 b.role) w2 fun w3 => St ⟨k, 3, none⟩ (.int .i64 b.cols) w3 fun w4 => St ⟨k, 4, none⟩ (.int .i64 b.chunk) w4 fun w5 => St ⟨k, 5, none⟩ (.int .i64 b.rows) w5 fun w6 =>
      St ⟨k, 6, none⟩ (.bool b.clean) w6 fun w7 => St ⟨k, 7, none⟩ (.int .i64 b.built) w7 fun w8 => St ⟨k, 8, none⟩ (.int .i64 b.new) w8 fun w9 => St ⟨k, 9, none⟩ (.int .i64 b.grown) w9 K := by
  have h0 : T F w0 w (blk k #[.int .u64 a.uuid, .int .u64 a.events, .int .i64 a.role, .int .i64 a.cols, .int .i64 a.chunk, .int .i64 a.rows, .bool a.clean, .int .i64 a.built, .int .i64 a.new, .int .i64 a.grown] t :: Γ) := hT
  refine St.t (c' := #[.int .u64 b.uuid, .int .u64 a.events, .int .i64 a.role, .int .i64 a.cols, .int .i64 a.chunk, .int .i64 a.rows, .bool a.clean, .int .i64 a.built, .int .i64 a.new, .int .i64 a.grown]) h0 .head (show 0 < 10 by decide) rfl rfl fun w1 h1 => ?_
  refine St.t (c' := #[.int .u64 b.uuid, .int .u64 b.events, .int .i64 a.role, .int .i64 a.cols, .int .i64 a.chunk, .int .i64 a.rows, .bool a.clean, .int .i64 a.built, .int .i64 a.new, .int .i64 a.grown]) h1 .head (show 1 < 10 by decide) rfl rfl fun w2 h2 => ?_
  refine St.t (c' := #[.int .u64 b.uuid, .int .u64 b.events, .int .i64 b.role, .int .i64 a.cols, .int .i64 a.chunk, .int .i64 a.rows, .bool a.clean, .int .i64 a.built, .int .i64 a.new, .int .i64 a.grown]) h2 .head (show 2 < 10 by decide) rfl rfl fun w3 h3 => ?_
  refine St.t (c' := #[.int .u64 b.uuid, .int .u64 b.events, .int .i64 b.role, .int .i64 b.cols, .int .i64 a.chunk, .int .i64 a.rows, .bool a.clean, .int .i64 a.built, .int .i64 a.new, .int .i64 a.grown]) h3 .head (show 3 < 10 by decide) rfl rfl fun w4 h4 => ?_
  refine St.t (c' := #[.int .u64 b.uuid, .int .u64 b.events, .int .i64 b.role, .int .i64 b.cols, .int .i64 b.chunk, .int .i64 a.rows, .bool a.clean, .int .i64 a.built, .int .i64 a.new, .int .i64 a.grown]) h4 .head (show 4 < 10 by decide) rfl rfl fun w5 h5 => ?_
  refine St.t (c' := #[.int .u64 b.uuid, .int .u64 b.events, .int .i64 b.role, .int .i64 b.cols, .int .i64 b.chunk, .int .i64 b.rows, .bool a.clean, .int .i64 a.built, .int .i64 a.new, .int .i64 a.grown]) h5 .head (show 5 < 10 by decide) rfl rfl fun w6 h6 => ?_
  refine St.t (c' := #[.int .u64 b.uuid, .int .u64 b.events, .int .i64 b.role, .int .i64 b.cols, .int .i64 b.chunk, .int .i64 b.rows, .bool b.clean, .int .i64 a.built, .int .i64 a.new, .int .i64 a.grown]) h6 .head (show 6 < 10 by decide) rfl rfl fun w7 h7 => ?_
  refine St.t (c' := #[.int .u64 b.uuid, .int .u64 b.events, .int .i64 b.role, .int .i64 b.cols, .int .i64 b.chunk, .int .i64 b.rows, .bool b.clean, .int .i64 b.built, .int .i64 a.new, .int .i64 a.grown]) h7 .head (show 7 < 10 by decide) rfl rfl fun w8 h8 => ?_
  refine St.t (c' := #[.int .u64 b.uuid, .int .u64 b.events, .int .i64 b.role, .int .i64 b.cols, .int .i64 b.chunk, .int .i64 b.rows, .bool b.clean, .int .i64 b.built, .int .i64 b.new, .int .i64 a.grown]) h8 .head (show 8 < 10 by decide) rfl rfl fun w9 h9 => ?_
  refine St.t (c' := #[.int .u64 b.uuid, .int .u64 b.events, .int .i64 b.role, .int .i64 b.cols, .int .i64 b.chunk, .int .i64 b.rows, .bool b.clean, .int .i64 b.built, .int .i64 b.new, .int .i64 b.grown]) h9 .head (show 9 < 10 by decide) rfl rfl fun w10 h10 => ?_
  exact hK w10 h10
def partC (k kc : Nat) (pc : Option Addr) : Array Value := #[.pointer (some ⟨k, 2, none⟩), .int .i64 1, .pointer (some ⟨k, 3, none⟩), .int .i64 1, .pointer (some ⟨k, 4, none⟩), .int .i64 1, .pointer (some ⟨k, 5, none⟩), .int .i64 2, .pointer pc, .int .i64 1, .pointer (some ⟨k, 7, none⟩), .int .i64 2, .pointer (some ⟨k, 8, none⟩), .int .i64 1, .pointer (some ⟨k, 9, none⟩), .int .i64 2]
def supW : List Nat := [4, 8, 8, 1, 1, 1, 2, 1, 2, 1, 2]
theorem supW_wid : Wid supW := ⟨by decide, by decide⟩
end Go.Proofs.YtbecjmfcppginaaGreat
end
section
/-! super: May, of any superblock. -/
namespace Go.Proofs.YtbecjmfcppginaaGreat
open Go.Sh Go.RowKit
set_option linter.unusedVariables false
set_option maxRecDepth 20000
set_option maxHeartbeats 1000000
def MayF (a : SupV) : Prop := a.uuid ≠ 0 ∧ OkG a.cols a.chunk a.rows ∧ ((a.new = 0 ∧ a.grown = 0) ∨ (a.new ≠ 0 ∧ a.cols + 1 ≤ a.new ∧ a.new ≤ 10)) ∧ (a.role = 254 ∨ a.role = 255 ∨ (0 ≤ a.role ∧ a.role ≤ (if a.new > a.cols then a.new else a.cols) - 1)) ∧ (0 ≤ a.built ∧ a.built ≤ a.rows) ∧ (0 ≤ a.grown ∧ a.grown ≤ a.rows)
instance (a : SupV) : Decidable (MayF a) := by unfold MayF; infer_instance
end Go.Proofs.YtbecjmfcppginaaGreat
end
section
/-! The reference's Check and May: the same answers. -/
namespace Go.Proofs.YtbecjmfcppginaaGreat
open Go.Sh Go.RowKit
set_option linter.unusedVariables false
set_option maxRecDepth 20000
set_option maxHeartbeats 1000000
end Go.Proofs.YtbecjmfcppginaaGreat
end
section
/-! The reference's crc: the same sums. -/
namespace Go.Proofs.YtbecjmfcppginaaGreat
open Go.Sh Go.RowKit
set_option linter.unusedVariables false
set_option maxRecDepth 20000
set_option maxHeartbeats 1000000
theorem max_xor32 (x : B32) : bits2 .xor .u32 IntKind.u32.max (x.toNat : Int) = ((~~~ x).toNat : Int) := by
  have : IntKind.u32.max = (((-1#32 : B32)).toNat : Int) := by decide
  rw [this, xor32]
  congr 2
theorem bit_one (x : B32) : (bits2 .and .u32 (x.toNat : Int) 1 == 1) = x.getLsbD 0 := by
  have h1 : bits2 .and .u32 (x.toNat : Int) 1 = ((x &&& 1#32).toNat : Int) := and32 x 1#32
  rw [h1, BitVec.toNat_and]
  have : (1#32).toNat = 1 := rfl
  rw [this, Nat.and_one_is_mod]
  have h2 : x.getLsbD 0 = decide (x.toNat % 2 = 1) := by
    simp [BitVec.getLsbD, Nat.testBit]
    rfl
  rw [h2]
  rcases Nat.mod_two_eq_zero_or_one x.toNat with h | h <;> simp [h]
theorem it1_succ (j : Nat) (x : B32) : it1 (j + 1) x = step1 (it1 j x) := rfl
theorem it1_8 (x : B32) : it1 8 x = step4 (step4 x) := rfl
theorem rmore_spec (n : B32) (s : ByteArray) (hs : s.size ≤ 1000000000) (w : World) : Ret Tryz.prog 106 #[u32v n, .string s] w (u32v (crcMore n s.data.toList)) := by
  refine ret_of (revetmentref02_More_calls ?_)
  unfold revetmentref02_More
  rw [max_xor32]
  have hl : s.data.toList.length = s.size := Array.length_toList
  refine ⟨fun vs w' => ∃ i : Nat, vs = [u32v ((s.data.toList.take i).foldl crcB (~~~ n)), .int .i64 (i : Int)] ∧ i ≤ s.size ∧ Ext w w', fun vs _ => match vs with | [_, .int _ i] => (s.size - i).toNat | _ => 0, ⟨0, rfl, by omega, .refl w⟩, ?_⟩
  rintro vs w1 ⟨i, rfl, hi, hx⟩
  refine ⟨_, _, rfl, dec_t fun hlt => ?_, dec_f fun hge => ?_⟩
  · have hlt : i < s.size := by omega
    have := index_str (P := Tryz.prog) (t := 9) (k := .i64) (n := i) (s := s) (w := w1) (by kernel_rfl) (by omega) (by omega)
    rw [Int.toNat_natCast] at this
    refine ⟨_, w1, this, ?_⟩
    generalize hb : s.data.toList.getD i 0 = b
    generalize hx0 : (s.data.toList.take i).foldl crcB (~~~ n) = x
    have hbb := b.toNat_lt
    have ex : bits2 .xor .u32 (x.toNat : Int) (IntKind.u32.wrap ((b.toNat : Nat) : Int)) = ((x ^^^ byte32 b).toNat : Int) := by
      have : IntKind.u32.wrap ((b.toNat : Nat) : Int) = ((byte32 b).toNat : Int) := by
        rw [wrap32 _ (by omega) (by omega)]
        unfold byte32
        rw [BitVec.toNat_ofNat]
        omega
      rw [this, xor32]
    rw [ex]
    refine ⟨fun vs w' => w' = w1 ∧ ∃ j : Nat, vs = [u32v (it1 j (x ^^^ byte32 b)), .int .i64 (j : Int)] ∧ j ≤ 8, fun vs _ => match vs with | [_, .int _ j] => (8 - j).toNat | _ => 0, ⟨rfl, 0, rfl, by omega⟩, ?_⟩
    rintro vs w2 ⟨rfl, j, rfl, hj⟩
    have hms : j < 8 → ((8 : Int) - IntKind.i64.wrap ((j : Int) + 1)).toNat < ((8 : Int) - (j : Int)).toNat := fun h => by rw [wrap64 _ (by omega) (by omega)]; omega
    have hnx : j < 8 → IntKind.i64.wrap ((j : Int) + 1) = ((j + 1 : Nat) : Int) := fun h => by rw [wrap64 _ (by omega) (by omega)]; omega
    refine ⟨_, _, rfl, dec_t fun hjl => ?_, dec_f fun hjg => ?_⟩
    · have hjl : j < 8 := by omega
      rw [bit_one, shr32 _ 1]
      refine ⟨fun hbit => ⟨⟨rfl, j + 1, ?_, by omega⟩, hms hjl⟩, fun hbit => ⟨⟨rfl, j + 1, ?_, by omega⟩, hms hjl⟩⟩
      · have hp : (2197175160 : Int) = (poly.toNat : Int) := rfl
        rw [hnx hjl, it1_succ, step1_bit, hbit, hp, xor32]
        rfl
      · rw [hnx hjl, it1_succ, step1_bit, hbit]
        simp
    · have hj8 : j = 8 := by omega
      subst hj8
      refine ⟨⟨i + 1, ?_, by omega, hx⟩, ?_⟩
      · have : (s.data.toList.take (i + 1)).foldl crcB (~~~ n) = crcB x b := by
          rw [List.take_add_one, List.getElem?_eq_getElem (by omega), ← hx0, ← hb, List.getD_eq_getElem?_getD, List.getElem?_eq_getElem (by omega)]
          simp
        rw [this, it1_8, wrap64 _ (by omega) (by omega)]
        rfl
      · show ((s.size : Int) - IntKind.i64.wrap ((i : Int) + 1)).toNat < ((s.size : Int) - (i : Int)).toNat
        rw [wrap64 _ (by omega) (by omega)]; omega
  · have hie : i = s.size := by omega
    subst hie
    rw [List.take_of_length_le (by omega), max_xor32]
    exact ⟨rfl, hx⟩
theorem rsum_spec (s : ByteArray) (hs : s.size ≤ 1000000000) (w : World) : Ret Tryz.prog 84 #[.string s] w (u32v (crcSum s.data.toList)) := by
  refine ret_of (revetmentref02_Sum_calls ?_)
  unfold revetmentref02_Sum
  exact (rmore_spec 0#32 s hs w).mono fun e w1 ⟨he, hx⟩ => ⟨_, he, rfl, hx⟩
end Go.Proofs.YtbecjmfcppginaaGreat
end
section
/-! The reference's four, Open. -/
namespace Go.Proofs.YtbecjmfcppginaaGreat
open Go.Sh Go.RowKit
set_option linter.unusedVariables false
set_option maxRecDepth 20000
set_option maxHeartbeats 1000000
theorem rfour_spec (n : B32) (w : World) : Ret Tryz.prog 83 #[u32v n] w (.string (strB (four n))) := by
  refine ret_of (revetmentref02_four_calls ?_)
  unfold revetmentref02_four
  refine Alloc.t (T.nil w) fun k w1 h1 => ?_
  have h2 : T [] w w1 [rowP 5 1 (some k) 4 4 (bvals (four n))] := by
    refine blk_row h1 ?_ rfl (by decide)
    have hlt := n.isLt
    have hw : ∀ d : Nat, 0 < d → IntKind.u8.wrap ((n.toNat : Int) / (d : Int)) = ((UInt8.ofNat (n.toNat / d)).toNat : Int) := by
      intro d hd
      rw [wrap8]
      simp
    have h0 : IntKind.u8.wrap (n.toNat : Int) = ((UInt8.ofNat n.toNat).toNat : Int) := by rw [wrap8]; simp
    have hf : ∀ k : Nat, Int.fdiv (n.toNat : Int) (2 ^ k) = (n.toNat : Int) / ((2 ^ k : Nat) : Int) := by
      intro k
      rw [Int.fdiv_eq_ediv_of_nonneg _ (Int.le_of_lt (Int.pow_pos (by decide)))]
      push_cast
      rfl
    rw [hf 8, hf 16, hf 24, hw _ (by decide), hw _ (by decide), hw _ (by decide), h0]
    rfl
  exact ⟨_, w1, row_string h2 List.mem_cons_self, rfl, h2.chg.ext⟩
theorem ropen_spec (s : ByteArray) (hs : s.size ≤ 1000000000) (w : World) : Ret Tryz.prog 47 #[.string s] w (.tuple #[.string (strB (openB s.data.toList).1), .bool (openB s.data.toList).2]) := by
  refine ret_of (revetmentref02_Open_calls ?_)
  unfold revetmentref02_Open
  have hl : s.data.toList.length = s.size := Array.length_toList
  refine ⟨dec_t fun hlt => ⟨?_, Ext.refl w⟩, dec_f fun hge => ?_⟩
  · unfold openB
    rw [if_pos (by omega)]
  · have wr : IntKind.i64.wrap ((s.size : Int) - 4) = (s.size : Int) - 4 := wrap64 _ (by omega) (by omega)
    rw [wr]
    have htn : ((s.size : Int) - 4).toNat = s.size - 4 := by omega
    have hs1 : s.extract 0 (s.size - 4) = strB (s.data.toList.take (s.size - 4)) := by
      conv => lhs; rw [← strB_list s]
      rw [strB_extract, List.drop_zero, Nat.sub_zero]
    have hs2 : s.extract (s.size - 4) s.size = strB (s.data.toList.drop (s.size - 4)) := by
      conv => lhs; rw [← strB_list s]
      rw [strB_extract, strB_size, hl]
      congr 1
      rw [List.take_of_length_le (by rw [List.length_drop, hl]; omega)]
    refine ⟨strB (s.data.toList.take (s.size - 4)), w, by rw [slice_to (by kernel_rfl) (by omega) (by omega), htn, hs1], fun w' => Ext w w', (Ext.refl w).drew, strB (s.data.toList.drop (s.size - 4)), fun w' _ => by rw [slice_from (by kernel_rfl) (by omega) (by omega), htn, hs2], ?_⟩
    have hz : (strB (s.data.toList.take (s.size - 4))).size ≤ 1000000000 := by rw [strB_size, List.length_take]; omega
    refine (rsum_spec _ hz _).mono fun e w1 ⟨he, hx1⟩ => ⟨_, he, ((Ext.refl w).drew).trans hx1, ?_⟩
    refine (rfour_spec _ w1).mono fun e w2 ⟨he, hx2⟩ => ⟨_, he, (((Ext.refl w).drew).trans hx1).trans hx2, ?_⟩
    have hx := (((Ext.refl w).drew).trans hx1).trans hx2
    have e1 : (strB (four (crcSum (strB (s.data.toList.take (s.size - 4))).data.toList))).toList = four (crcSum (s.data.toList.take (s.size - 4))) := strB_toList _
    rw [e1, strB_toList]
    have ho : openB s.data.toList = if four (crcSum (s.data.toList.take (s.size - 4))) = s.data.toList.drop (s.size - 4) then (s.data.toList.take (s.size - 4), true) else ([], false) := by
      unfold openB
      rw [if_neg (by omega), hl]
    by_cases hq : four (crcSum (s.data.toList.take (s.size - 4))) = s.data.toList.drop (s.size - 4)
    · rw [ho, if_pos hq, hq]
      simp only [beq_self_eq_true, Bool.not_true]
      exact ⟨fun h => (by cases h), fun _ => ⟨trivial, hx⟩⟩
    · rw [ho, if_neg hq]
      have : (s.data.toList.drop (s.size - 4) == four (crcSum (s.data.toList.take (s.size - 4)))) = false := by
        simp only [beq_eq_false_iff_ne, ne_eq]
        exact fun h => hq h.symm
      rw [this]
      exact yes rfl ⟨rfl, hx⟩
end Go.Proofs.YtbecjmfcppginaaGreat
end
section
/-! The reference's Seal. -/
namespace Go.Proofs.YtbecjmfcppginaaGreat
open Go.Sh Go.RowKit
set_option linter.unusedVariables false
set_option maxRecDepth 20000
set_option maxHeartbeats 1000000
theorem rseal_spec (s : ByteArray) (size : Nat) (hs : s.size + 4 ≤ size) (hz : size ≤ 4096) (w : World) : Ret Tryz.prog 75 #[.string s, .int .i64 (size : Int)] w (.tuple #[.string (strB (sealB s.data.toList size)), .bool true]) := by
  refine ret_of (revetmentref02_Seal_calls ?_)
  unfold revetmentref02_Seal
  have wr : IntKind.i64.wrap ((size : Int) - 4) = (size : Int) - 4 := wrap64 _ (by omega) (by omega)
  have hl : s.data.toList.length = s.size := Array.length_toList
  rw [wr]
  refine no (decide_eq_false (by omega)) (no (decide_eq_false (by omega)) (no (decide_eq_false (by omega)) ?_))
  refine ⟨fun vs w' => w' = w ∧ ∃ k : Nat, vs = [.string (strB (s.data.toList ++ List.replicate k 0))] ∧ s.size + k ≤ size - 4, fun vs _ => match vs with | [.string t] => size - t.size | _ => 0, ⟨rfl, 0, by rw [List.replicate_zero, List.append_nil, strB_list], by omega⟩, ?_⟩
  rintro vs w1 ⟨rfl, k, rfl, hk⟩
  have hsz : (strB (s.data.toList ++ List.replicate k 0)).size = s.size + k := by rw [strB_size]; simp [hl]
  refine ⟨_, rfl, dec_t fun hlt => ?_, dec_f fun hge => ?_⟩
  · rw [hsz] at hlt
    have e0 : (ByteArray.mk #[0]) = strB [0] := rfl
    have es : strB (s.data.toList ++ List.replicate k 0) ++ ByteArray.mk #[0] = strB (s.data.toList ++ List.replicate (k + 1) 0) := by
      rw [e0, strB_append, List.append_assoc, List.replicate_succ']
    refine ⟨by rw [hsz]; have : (ByteArray.mk #[0]).size = 1 := rfl
               omega, ⟨rfl, k + 1, by rw [es], by omega⟩, ?_⟩
    rw [es]
    show size - (strB (s.data.toList ++ List.replicate (k + 1) 0)).size < size - (strB (s.data.toList ++ List.replicate k 0)).size
    rw [hsz, strB_size]
    simp [hl]; omega
  · rw [hsz] at hge
    have hke : k = size - 4 - s.size := by omega
    have hp : strB (s.data.toList ++ List.replicate k 0) = strB (padB s.data.toList (size - 4)) := by unfold padB; rw [hke, hl]
    rw [hp]
    have hpl : (padB s.data.toList (size - 4)).length = size - 4 := padB_len (by omega)
    refine (rsum_spec _ (by rw [strB_size, hpl]; omega) _).mono fun e w2 ⟨he, hx2⟩ => ⟨_, he, ?_⟩
    refine (rfour_spec _ w2).mono fun e w3 ⟨he, hx3⟩ => ⟨_, he, by rw [strB_size, strB_size, hpl]; have := four_len (crcSum (strB (padB s.data.toList (size - 4))).data.toList); omega, ?_, hx2.trans hx3⟩
    rw [strB_append]
    rfl
end Go.Proofs.YtbecjmfcppginaaGreat
end
section
/-! The reference's pack: Size, Fits, Encode, Decode. -/
namespace Go.Proofs.YtbecjmfcppginaaGreat
open Go.Sh Go.RowKit
set_option linter.unusedVariables false
set_option linter.unusedSimpArgs false
set_option maxRecDepth 20000
set_option maxHeartbeats 1000000
theorem rsize_spec {ws : List Nat} (hv : Wid ws) {w : World} {g : Option Nat} {cap : Nat} (hm : readsW w g ws) : Ret Tryz.prog 85 #[.slice (ptr g) ws.length cap] w (.tuple #[.int .i64 (ws.sum : Int), .int .i64 0]) := by
  refine ret_of (revetmentref03_Size_calls ?_)
  unfold revetmentref03_Size
  have hs := hv.sum
  have hl := hv.1
  refine no (decide_eq_false (by omega)) ?_
  refine ⟨fun vs w' => w' = w ∧ ∃ i : Nat, vs = [.int .i64 (wsum ws i : Int), .int .i64 (i : Int)] ∧ i ≤ ws.length, fun vs _ => match vs with | [_, .int _ i] => (ws.length - i).toNat | _ => 0, ⟨rfl, 0, rfl, by omega⟩, ?_⟩
  rintro vs w1 ⟨rfl, i, rfl, hi⟩
  refine ⟨_, _, rfl, dec_t fun hlt => ?_, dec_f fun hge => ?_⟩
  · have hlt : i < ws.length := by omega
    obtain ⟨b, rfl, hc⟩ := hm i ws[i] (by simp [hlt])
    have hx := hv.at (i := i) (x := ws[i]) (by simp [hlt])
    have hst := wsum_step (ws := ws) (i := i) (x := ws[i]) (by simp [hlt])
    have hmx := wsum_max (ws := ws) (i + 1)
    have hcell : w1.cell? (Addr.add ⟨b, 0, none⟩ ((i : Int).toNat * 1)) = some (.int .i64 (ws[i] : Int)) := by rw [addr_add, Nat.zero_add, Nat.mul_one, Int.toNat_natCast]; exact hc
    refine ⟨_, rfl, by omega, by omega, _, hcell, no (decide_eq_false (by omega)) ⟨_, rfl, by omega, by omega, _, hcell, no (decide_eq_false (by omega)) ⟨_, rfl, by omega, by omega, _, hcell, ⟨rfl, i + 1, ?_, by omega⟩, ?_⟩⟩⟩
    · rw [wrap64 _ (by omega) (by omega), wrap64 _ (by omega) (by omega), hst]; simp
    · show ((ws.length : Int) - IntKind.i64.wrap ((i : Int) + 1)).toNat < ((ws.length : Int) - (i : Int)).toNat
      rw [wrap64 _ (by omega) (by omega)]; omega
  · have hie : i = ws.length := by omega
    subst hie
    rw [wsum_all ws (Nat.le_refl _)]
    exact ⟨rfl, Ext.refl _⟩
theorem rfits_spec (n x : Nat) (hn : n < 256 ^ x) (hx : 1 ≤ x ∧ x ≤ 8) (w : World) : Ret Tryz.prog 101 #[.int .u64 (n : Int), .int .i64 (x : Int)] w (.bool true) := by
  refine ret_of (revetmentref03_Fits_calls ?_)
  unfold revetmentref03_Fits
  refine no (decide_eq_false (by omega)) (no (decide_eq_false (by omega)) ?_)
  refine ⟨fun vs w' => w' = w ∧ ∃ k : Nat, vs = [.int .u64 ((n / 256 ^ k : Nat) : Int), .int .i64 (k : Int)] ∧ k ≤ x, fun vs _ => match vs with | [_, .int _ k] => (x - k).toNat | _ => 0, ⟨rfl, 0, by rw [Nat.pow_zero, Nat.div_one]; rfl, by omega⟩, ?_⟩
  rintro vs w1 ⟨rfl, k, rfl, hk⟩
  refine ⟨_, _, rfl, dec_t fun hlt => ?_, dec_f fun hge => ?_⟩
  · have e : Int.fdiv ((n / 256 ^ k : Nat) : Int) (2 ^ 8) = ((n / 256 ^ (k + 1) : Nat) : Int) := by
      rw [Int.fdiv_eq_ediv_of_nonneg _ (by decide), Nat.pow_succ, ← Nat.div_div_eq_div_mul]; push_cast; rfl
    rw [e]
    refine ⟨⟨rfl, k + 1, by rw [wrap64 _ (by omega) (by omega)]; rfl, by omega⟩, ?_⟩
    show ((x : Int) - IntKind.i64.wrap ((k : Int) + 1)).toNat < ((x : Int) - (k : Int)).toNat
    rw [wrap64 _ (by omega) (by omega)]; omega
  · have hkx : k = x := by omega
    subst hkx
    rw [Nat.div_eq_of_lt hn]
    exact ⟨rfl, Ext.refl _⟩
theorem rencode_spec {ns ws : List Nat} (hv : Wid ws) (hl : ns.length = ws.length) (hf : ∀ (i n x : Nat), ns[i]? = some n → ws[i]? = some x → n < 256 ^ x) {F : List Nat} {w0 w : World} {Γ : List A} (hT : T F w0 w Γ) {g1 g2 : Option Nat} {n1 n2 c1 c2 : Nat} (hn1 : n1 = ns.length) (hn2 : n2 = ws.length)
    (hm1 : rowP 57 1 g1 n1 c1 (u64s ns) ∈ Γ) (hm2 : rowP 3 1 g2 n2 c2 (ints ws) ∈ Γ) :
    Calls Tryz.prog 74 #[.slice (ptr g1) n1 c1, .slice (ptr g2) n2 c2] w fun e w' => e = .returned (.tuple #[.string (strB (encP ns ws)), .int .i64 0]) ∧ T F w0 w' Γ := by
  subst hn1 hn2
  refine (revetmentref03_Encode_calls (R := fun v w' => v = .tuple #[.string (strB (encP ns ws)), .int .i64 0] ∧ T F w0 w' Γ) ?_).mono fun e w' ⟨v, he, hv, h⟩ => ⟨by rw [he, hv], h⟩
  unfold revetmentref03_Encode
  have hs := hv.sum
  have hw64 := hv.1
  refine (rsize_spec hv (T.readsW hT hm2)).mono fun e w1 ⟨he, hx⟩ => ⟨_, _, he, no rfl (no (by simp [hl]) ?_)⟩
  have h1 := hT.quiet hx
  refine Alloc.t h1 fun k24 w2 h2 => ?_
  have h2 : T F w0 w2 (rowP 5 1 (some k24) 0 0 (bvals ((encP ns ws).take 0)) :: Γ) := blk_row h2 rfl rfl (by decide)
  refine ⟨fun vs w' => ∃ (i : Nat) (g : Option Nat) (cap : Nat), vs = [.slice (ptr g) (wsum ws i) cap, .int .i64 (i : Int)] ∧ i ≤ ws.length ∧ T F w0 w' (rowP 5 1 g (wsum ws i) cap (bvals ((encP ns ws).take (wsum ws i))) :: Γ), fun vs _ => match vs with | [_, .int _ i] => (ws.length - i).toNat | _ => 0, ⟨0, some k24, 0, rfl, by omega, h2⟩, ?_⟩
  rintro vs w3 ⟨i, g, cap, rfl, hi, h3⟩
  refine ⟨_, _, _, _, rfl, dec_t fun hlt => ?_, dec_f fun hge => ?_⟩
  · have hlt : i < ws.length := by omega
    have hx : ws[i]? = some ws[i] := by simp [hlt]
    have hn : ns[i]? = some (ns[i]'(by omega)) := by simp [hl, hlt]
    generalize ns[i]'(by omega) = v at hn
    generalize ws[i] = x at hx
    have h8 := hv.at hx
    have hst := wsum_step hx
    have hmx := wsum_max (ws := ws) (i + 1)
    obtain ⟨b1, rfl, _, _⟩ := T.cell1 hT hm1 (u64s_get hn)
    obtain ⟨b2, rfl, _, _⟩ := T.cell1 hT hm2 (ints_get hx)
    have rn : ∀ {w' : World} {Γ' : List A}, T F w0 w' Γ' → rowP 57 1 (some b1) ns.length c1 (u64s ns) ∈ Γ' → w'.cell? (Addr.add ⟨b1, 0, none⟩ ((i : Int).toNat * 1)) = some (.int .u64 (v : Int)) := fun h m => by
      obtain ⟨b', hb', _, hc⟩ := T.cell1 h m (u64s_get hn)
      cases hb'
      rw [Int.toNat_natCast]; exact hc
    have rw_ : ∀ {w' : World} {Γ' : List A}, T F w0 w' Γ' → rowP 3 1 (some b2) ws.length c2 (ints ws) ∈ Γ' → w'.cell? (Addr.add ⟨b2, 0, none⟩ ((i : Int).toNat * 1)) = some (.int .i64 (x : Int)) := fun h m => by
      obtain ⟨b', hb', _, hc⟩ := T.cell1 h m (ints_get hx)
      cases hb'
      rw [Int.toNat_natCast]; exact hc
    refine ⟨fun w' => T F w0 w' (_ :: Γ), h3.drew, _, rfl, by omega, by omega, (v : Int), fun w' hd => rn hd (List.mem_cons_of_mem _ hm1), _, rfl, by omega, by omega, (x : Int), fun w' hd => rw_ hd (List.mem_cons_of_mem _ hm2), ?_⟩
    refine (rfits_spec v x (hf i v x hn hx) h8 _).mono fun e w4 ⟨he, hx4⟩ => ⟨_, he, h3.drew.quiet hx4, no rfl ?_⟩
    have h4 := h3.drew.quiet hx4
    refine ⟨fun vs w' => ∃ (k : Nat) (g : Option Nat) (cap : Nat), vs = [.slice (ptr g) (wsum ws i + k) cap, .int .i64 (k : Int)] ∧ k ≤ x ∧ T F w0 w' (rowP 5 1 g (wsum ws i + k) cap (bvals ((encP ns ws).take (wsum ws i + k))) :: Γ), fun vs _ => match vs with | [_, .int _ k] => (x - k).toNat | _ => 0, ⟨0, g, cap, rfl, by omega, h4⟩, ?_⟩
    rintro vs w5 ⟨k, g', cap', rfl, hk, h5⟩
    refine ⟨_, _, _, _, rfl, _, rfl, by omega, by omega, (x : Int), rw_ h5 (List.mem_cons_of_mem _ hm2), dec_t fun hkl => ?_, dec_f fun hkg => ?_⟩
    · have hk8 : IntKind.i64.wrap (8 * (k : Int)) = ((8 * k : Nat) : Int) := by rw [wrap64 _ (by omega) (by omega)]; omega
      rw [hk8]
      have hbyte : IntKind.u8.wrap (Int.fdiv (v : Int) (2 ^ (min ((8 * k : Nat) : Int).toNat 64))) = ((UInt8.ofNat (v / 2 ^ (8 * k))).toNat : Int) := by
        rw [Int.toNat_natCast, Nat.min_eq_left (by omega), Int.fdiv_eq_ediv_of_nonneg _ (Int.le_of_lt (Int.pow_pos (by decide))), wrap8]
        have : ((v : Int) / 2 ^ (8 * k)) = ((v / 2 ^ (8 * k) : Nat) : Int) := by push_cast; rfl
        rw [this]
        simp
      refine ⟨_, rfl, by omega, by omega, (v : Int), rn h5 (List.mem_cons_of_mem _ hm1), by omega, ?_⟩
      rw [hbyte]
      refine push1_t (i := Tryz.t5) (z := .int .u8 0) (by kernel_rfl) (by kernel_rfl) (by kernel_rfl) (by kernel_rfl) (by kernel_rfl) (by kernel_rfl) h5 .head rfl (by omega) fun g2 cap2 w7 h7 => ⟨⟨k + 1, g2, cap2, ?_, by omega, ?_⟩, ?_⟩
      · rw [wrap64 _ (by omega) (by omega)]; rfl
      · have e : bvals ((encP ns ws).take (wsum ws i + k)) ++ [.int .u8 ((UInt8.ofNat (v / 2 ^ (8 * k))).toNat : Int)] = bvals ((encP ns ws).take (wsum ws i + (k + 1))) := by
          rw [← Nat.add_assoc, encP_take_step hx hn (by omega), ← bvals_append]; rfl
        rw [e] at h7
        exact h7
      · show ((x : Int) - IntKind.i64.wrap ((k : Int) + 1)).toNat < ((x : Int) - (k : Int)).toNat
        rw [wrap64 _ (by omega) (by omega)]; omega
    · have hkx : k = x := by omega
      subst hkx
      refine ⟨⟨i + 1, g', cap', ?_, by omega, ?_⟩, ?_⟩
      · rw [wrap64 _ (by omega) (by omega), hst]; rfl
      · rw [hst]; exact h5
      · show ((ws.length : Int) - IntKind.i64.wrap ((i : Int) + 1)).toNat < ((ws.length : Int) - (i : Int)).toNat
        rw [wrap64 _ (by omega) (by omega)]; omega
  · have hie : i = ws.length := by omega
    subst hie
    rw [wsum_all ws (Nat.le_refl _)] at h3 ⊢
    rw [List.take_of_length_le (by rw [encP_len ns ws hl]; exact Nat.le_refl _)] at h3
    exact ⟨_, w3, row_string h3 List.mem_cons_self, rfl, h3.drop⟩
theorem rdecode_spec {ws : List Nat} (hv : Wid ws) {s : ByteArray} (hsz : s.size = ws.sum) {F : List Nat} {w0 w : World} {Γ : List A} (hT : T F w0 w Γ) {g2 : Option Nat} {n2 c2 : Nat} (hn2 : n2 = ws.length)
    (hm2 : rowP 3 1 g2 n2 c2 (ints ws) ∈ Γ) :
    Calls Tryz.prog 48 #[.string s, .slice (ptr g2) n2 c2] w fun e w' => ∃ g cap, e = .returned (.tuple #[.slice (ptr g) ws.length cap, .int .i64 0]) ∧ T F w0 w' (rowP 57 1 g ws.length cap (u64s (decP s.data.toList ws)) :: Γ) := by
  subst hn2
  refine (revetmentref03_Decode_calls (R := fun v w' => ∃ g cap, v = .tuple #[.slice (ptr g) ws.length cap, .int .i64 0] ∧ T F w0 w' (rowP 57 1 g ws.length cap (u64s (decP s.data.toList ws)) :: Γ)) ?_).mono fun e w' ⟨v, he, g, cap, hv, h⟩ => ⟨g, cap, by rw [he, hv], h⟩
  unfold revetmentref03_Decode
  have hs := hv.sum
  have hw64 := hv.1
  have hlen : s.data.toList.length = ws.sum := by rw [Array.length_toList]; exact hsz
  have hdl : (decP s.data.toList ws).length = ws.length := decP_len _ ws
  refine (rsize_spec hv (T.readsW hT hm2)).mono fun e w1 ⟨he, hx⟩ => ⟨_, _, he, no rfl (no (by rw [hsz]; simp) ?_)⟩
  have h1 := hT.quiet hx
  refine Alloc.t h1 fun k25 w2 h2 => ?_
  have h2 : T F w0 w2 (rowP 57 1 (some k25) 0 0 (u64s ((decP s.data.toList ws).take 0)) :: Γ) := blk_row h2 rfl rfl (by decide)
  refine ⟨fun vs w' => ∃ (i : Nat) (g : Option Nat) (cap : Nat), vs = [.slice (ptr g) i cap, .int .i64 (wsum ws i : Int), .int .i64 (i : Int)] ∧ i ≤ ws.length ∧ T F w0 w' (rowP 57 1 g i cap (u64s ((decP s.data.toList ws).take i)) :: Γ), fun vs _ => match vs with | [_, _, .int _ i] => (ws.length - i).toNat | _ => 0, ⟨0, some k25, 0, rfl, by omega, h2⟩, ?_⟩
  rintro vs w3 ⟨i, g, cap, rfl, hi, h3⟩
  refine ⟨_, _, _, _, _, rfl, dec_t fun hlt => ?_, dec_f fun hge => ?_⟩
  · have hlt : i < ws.length := by omega
    have hx : ws[i]? = some ws[i] := by simp [hlt]
    generalize ws[i] = x at hx
    have h8 := hv.at hx
    have hst := wsum_step hx
    have hmx := wsum_max (ws := ws) (i + 1)
    obtain ⟨b2, rfl, _, _⟩ := T.cell1 hT hm2 (ints_get hx)
    have rw_ : ∀ {w' : World} {Γ' : List A}, T F w0 w' Γ' → rowP 3 1 (some b2) ws.length c2 (ints ws) ∈ Γ' → w'.cell? (Addr.add ⟨b2, 0, none⟩ ((i : Int).toNat * 1)) = some (.int .i64 (x : Int)) := fun h m => by
      obtain ⟨b', hb', _, hc⟩ := T.cell1 h m (ints_get hx)
      cases hb'
      rw [Int.toNat_natCast]; exact hc
    refine ⟨fun vs w' => w' = w3 ∧ ∃ k : Nat, vs = [.int .u64 (curP s.data.toList ws (wsum ws i + k) i : Int), .int .i64 (k : Int)] ∧ k ≤ x, fun vs _ => match vs with | [_, .int _ k] => (x - k).toNat | _ => 0, ⟨rfl, 0, ?_, by omega⟩, ?_⟩
    · have : curP s.data.toList ws (wsum ws i + 0) i = 0 := by simp [curP, leN]
      rw [this]; rfl
    rintro vs w4 ⟨rfl, k, rfl, hk⟩
    refine ⟨_, _, rfl, _, rfl, by omega, by omega, (x : Int), rw_ h3 (List.mem_cons_of_mem _ hm2), dec_t fun hkl => ?_, dec_f fun hkg => ?_⟩
    · have hkl : k < x := by omega
      have hb : s.data.toList[wsum ws i + k]? = some (s.data.toList[wsum ws i + k]'(by omega)) := by simp
      generalize s.data.toList[wsum ws i + k]'(by omega) = b at hb
      obtain ⟨hst2, hlt2⟩ := curP_step hx hkl hb
      have hbb := b.toNat_lt
      have hp : (256 : Nat) ^ k = 2 ^ (8 * k) := by rw [Nat.pow_mul]
      rw [hp] at hst2 hlt2
      have hval : curP s.data.toList ws (wsum ws i + k) i + b.toNat * 2 ^ (8 * k) < 18446744073709551616 := by
        have h1 : b.toNat * 2 ^ (8 * k) ≤ 255 * 2 ^ (8 * k) := Nat.mul_le_mul_right _ (by omega)
        have h2 : (2 : Nat) ^ (8 * k) ≤ 2 ^ 56 := Nat.pow_le_pow_right (by decide) (by omega)
        have h3 : (2 : Nat) ^ 56 = 72057594037927936 := by decide
        omega
      have hk8 : IntKind.i64.wrap (8 * (k : Int)) = ((8 * k : Nat) : Int) := by rw [wrap64 _ (by omega) (by omega)]; omega
      have hwr : IntKind.u64.wrap (IntKind.u64.wrap ((b.toNat : Nat) : Int) * 2 ^ (min ((8 * k : Nat) : Int).toNat 64)) = ((b.toNat * 2 ^ (8 * k) : Nat) : Int) := by
        rw [Int.toNat_natCast, Nat.min_eq_left (by omega)]
        have e1 : IntKind.u64.wrap ((b.toNat : Nat) : Int) = ((b.toNat : Nat) : Int) := by rw [wrapU64]; omega
        have e2 : ((b.toNat : Nat) : Int) * 2 ^ (8 * k) = ((b.toNat * 2 ^ (8 * k) : Nat) : Int) := by push_cast; rfl
        rw [e1, e2, wrapU64]; omega
      have hor := or64 hlt2 hval
      have hat : IntKind.i64.wrap ((wsum ws i : Int) + (k : Int)) = ((wsum ws i + k : Nat) : Int) := by rw [wrap64 _ (by omega) (by omega)]; omega
      have hix := index_str (P := Tryz.prog) (t := 9) (k := .i64) (n := ((wsum ws i + k : Nat) : Int)) (s := s) (w := w4) (by kernel_rfl) (by omega) (by omega)
      rw [Int.toNat_natCast] at hix
      have hgd : s.data.toList.getD (wsum ws i + k) 0 = b := by simp [List.getD, hb]
      rw [hgd] at hix
      rw [hat, hk8]
      refine ⟨_, w4, hix, by omega, ?_⟩
      rw [hwr, hor, ← hst2]
      refine ⟨⟨rfl, k + 1, ?_, by omega⟩, ?_⟩
      · rw [wrap64 _ (by omega) (by omega)]; rfl
      · show ((x : Int) - IntKind.i64.wrap ((k : Int) + 1)).toNat < ((x : Int) - (k : Int)).toNat
        rw [wrap64 _ (by omega) (by omega)]; omega
    · have hkx : k = x := by omega
      subst hkx
      have hget : (decP s.data.toList ws)[i]? = some (curP s.data.toList ws (wsum ws i + k) i) := by
        rw [decP_get ws s.data.toList i k hx]
        have : ws.getD i 0 = k := by simp [List.getD, hx]
        unfold curP
        rw [this, Nat.add_sub_cancel_left, Nat.min_self]
      refine push1_t (i := Tryz.t57) (z := .int .u64 0) (by kernel_rfl) (by kernel_rfl) (by kernel_rfl) (by kernel_rfl) (by kernel_rfl) (by kernel_rfl) h3 .head rfl (by omega) fun g3 cap3 w7 h7 => ?_
      rw [u64s_take _ _ _ hget] at h7
      refine ⟨_, rfl, by omega, by omega, (k : Int), rw_ h7 (List.mem_cons_of_mem _ hm2), ⟨i + 1, g3, cap3, ?_, by omega, h7⟩, ?_⟩
      · rw [wrap64 _ (by omega) (by omega), wrap64 _ (by omega) (by omega), hst]
        simp
      · show ((ws.length : Int) - IntKind.i64.wrap ((i : Int) + 1)).toNat < ((ws.length : Int) - (i : Int)).toNat
        rw [wrap64 _ (by omega) (by omega)]; omega
  · have hie : i = ws.length := by omega
    subst hie
    rw [List.take_of_length_le (by omega)] at h3
    exact ⟨g, cap, rfl, h3⟩
end Go.Proofs.YtbecjmfcppginaaGreat
end
section
/-! The reference's record: places, May, head, Encode. -/
namespace Go.Proofs.YtbecjmfcppginaaGreat
open Go.Sh Go.RowKit
set_option linter.unusedVariables false
set_option linter.unusedSimpArgs false
set_option maxRecDepth 20000
set_option maxHeartbeats 1000000
theorem cellsOf_parts {w w' : World} {p : Option Addr} {l : List RP} (H : partsAt w p l) (hx : Ext w w') {i : Nat} {a : Addr} (hp : p = some a) (hi : i < l.length) :
    w'.cell? (Addr.add a (i * 3)) = some (.int .i64 (l[i]).col) ∧ w'.cell? (Addr.add (Addr.add a (i * 3)) 1) = some (.int .i64 (l[i]).off) ∧ w'.cell? (Addr.add (Addr.add a (i * 3)) 2) = some (.string (strB (l[i]).data)) := by
  obtain ⟨a', ha, hh⟩ := (H.ext hx).get hi
  rw [hp] at ha; cases ha; exact hh
theorem rplaces_spec {seq : Nat} {row : Int} {p : Option Addr} {c : Nat} {l : List RP} {w : World} (H : partsAt w p l) (hl : l.length ≤ 1000000) : Ret Tryz.prog 107 #[.agg (rcC seq row p l.length c)] w (.bool (decide (PlacedR row l))) := by
  refine ret_of (revetmentref12_places_calls ?_)
  unfold revetmentref12_places
  refine Alloc.t (T.nil w) fun k1 w1 h1 => ?_
  have h1 : T [] w w1 [blk k1 (rcC seq row p l.length c) 99] := h1
  have bad : ∀ {w' : World}, Ext w w' → ¬ PlacedR row l → RetR w (.bool (decide (PlacedR row l))) (.bool false) w' := fun hx hn => ⟨by rw [decide_eq_false hn], hx⟩
  have sl : ∀ {w' : World} {Γ : List A}, T [] w w' Γ → blk k1 (rcC seq row p l.length c) 99 ∈ Γ → w'.cell? ⟨k1, 2, none⟩ = some (.slice p l.length c) := fun h hm => h.ld (c := rcC seq row p l.length c) (i := 2) hm rfl
  refine ⟨_, h1.ld (b := k1) (c := rcC seq row p l.length c) (i := 1) (by repeat (first | exact List.Mem.head _ | refine List.Mem.tail _ ?_)) rfl, dec_t fun h => bad h1.chg.ext (fun hp => by have := hp.1; omega), dec_f fun r0 => ?_⟩
  refine ⟨_, h1.ld (b := k1) (c := rcC seq row p l.length c) (i := 1) (by repeat (first | exact List.Mem.head _ | refine List.Mem.tail _ ?_)) rfl, dec_t fun h => bad h1.chg.ext (fun hp => by have := hp.2.1; omega), dec_f fun r256 => ?_⟩
  refine ⟨_, _, _, sl h1 (by repeat (first | exact List.Mem.head _ | refine List.Mem.tail _ ?_)), dec_t fun h => bad h1.chg.ext (fun hp => by have := hp.2.2.1; omega), dec_f fun l0 => ?_⟩
  refine ⟨_, _, _, sl h1 (by repeat (first | exact List.Mem.head _ | refine List.Mem.tail _ ?_)), dec_t fun h => bad h1.chg.ext (fun hp => by have := hp.2.2.2.1; omega), dec_f fun l40 => ?_⟩
  refine ⟨fun vs w' => ∃ i : Nat, vs = [.int .i64 (i : Int)] ∧ i ≤ l.length ∧ (∀ x ∈ l.take i, 0 ≤ x.col ∧ x.col < 10 ∧ 0 ≤ x.off ∧ x.off < 4) ∧ ((l.take i).map fun x => (x.col, x.off)).Nodup ∧ T [] w w' [blk k1 (rcC seq row p l.length c) 99], fun vs _ => match vs with | [.int _ i] => (l.length - i).toNat | _ => 0, ⟨0, rfl, by omega, by simp, by simp, h1⟩, ?_⟩
  rintro vs w2 ⟨i, rfl, hi, hr, hnd, h2⟩
  refine ⟨_, rfl, _, _, _, sl h2 (by repeat (first | exact List.Mem.head _ | refine List.Mem.tail _ ?_)), dec_t fun hlt => ?_, dec_f fun hge => ?_⟩
  · have hlt : i < l.length := by omega
    obtain ⟨a, ha, _⟩ := H.get hlt
    obtain ⟨c0, c1, c2⟩ := cellsOf_parts H h2.chg.ext ha hlt
    have hmem : l[i] ∈ l := List.getElem_mem hlt
    have hnext := map_take_next hlt
    have hms : ((l.length : Int) - IntKind.i64.wrap ((i : Int) + 1)).toNat < ((l.length : Int) - (i : Int)).toNat := by rw [wrap64 _ (by omega) (by omega)]; omega
    have hnx : IntKind.i64.wrap ((i : Int) + 1) = ((i + 1 : Nat) : Int) := by rw [wrap64 _ (by omega) (by omega)]; omega
    generalize hx : l[i] = x at c0 c1 c2 hmem hnext
    refine ⟨_, _, _, sl h2 (by repeat (first | exact List.Mem.head _ | refine List.Mem.tail _ ?_)), a, ha, by omega, by omega, x.col, x.off, strB x.data, ⟨by rw [Int.toNat_natCast]; exact c0, by rw [Int.toNat_natCast]; exact c1, by rw [Int.toNat_natCast]; exact c2⟩, ?_⟩
    refine Alloc.t h2 fun k4 w3 h3 => St3.t h3 fun w6 h6 => ?_
    refine ⟨_, h6.ld (b := k4) (c := rpC x) (by repeat (first | exact List.Mem.head _ | refine List.Mem.tail _ ?_)) rfl, dec_t fun h => bad h6.chg.ext (fun hp => by have := hp.2.2.2.2.1 x hmem; omega), dec_f fun q1 => ?_⟩
    refine ⟨_, h6.ld (b := k4) (c := rpC x) (by repeat (first | exact List.Mem.head _ | refine List.Mem.tail _ ?_)) rfl, dec_t fun h => bad h6.chg.ext (fun hp => by have := hp.2.2.2.2.1 x hmem; omega), dec_f fun q2 => ?_⟩
    refine ⟨_, h6.ld (b := k4) (c := rpC x) (i := 1) (by repeat (first | exact List.Mem.head _ | refine List.Mem.tail _ ?_)) rfl, dec_t fun h => bad h6.chg.ext (fun hp => by have := hp.2.2.2.2.1 x hmem; omega), dec_f fun q3 => ?_⟩
    refine ⟨_, h6.ld (b := k4) (c := rpC x) (i := 1) (by repeat (first | exact List.Mem.head _ | refine List.Mem.tail _ ?_)) rfl, dec_t fun h => bad h6.chg.ext (fun hp => by have := hp.2.2.2.2.1 x hmem; omega), dec_f fun q4 => ?_⟩
    refine ⟨fun vs w' => ∃ j : Nat, vs = [.int .i64 (j : Int)] ∧ j ≤ i ∧ (∀ y ∈ l.take j, ¬ (y.col = x.col ∧ y.off = x.off)) ∧ T [] w w' [blk k4 (rpC x) 115, blk k1 (rcC seq row p l.length c) 99], fun vs _ => match vs with | [.int _ j] => (i - j).toNat | _ => 0, ⟨0, rfl, by omega, by simp, h6⟩, ?_⟩
    rintro vs w7 ⟨j, rfl, hj, hne, h7⟩
    refine ⟨_, rfl, dec_t fun hjl => ?_, dec_f fun hjg => ?_⟩
    · have hjl : j < i := by omega
      have hjl2 : j < l.length := by omega
      have hstep : ∀ y, l[j] = y → ¬ (y.col = x.col ∧ y.off = x.off) → ∀ z ∈ l.take (j + 1), ¬ (z.col = x.col ∧ z.off = x.off) := fun y hy hn z hz => by
        rw [List.take_add_one, List.getElem?_eq_getElem hjl2] at hz
        rcases List.mem_append.1 hz with hz | hz
        · exact hne z hz
        · have : z = y := by rw [← hy]; simpa using hz
          rw [this]; exact hn
      have hjm : ((i : Int) - IntKind.i64.wrap ((j : Int) + 1)).toNat < ((i : Int) - (j : Int)).toNat := by rw [wrap64 _ (by omega) (by omega)]; omega
      have hjx : IntKind.i64.wrap ((j : Int) + 1) = ((j + 1 : Nat) : Int) := by rw [wrap64 _ (by omega) (by omega)]; omega
      have hcj := fun (w' : World) (hx : Ext w w') => cellsOf_parts H hx ha hjl2
      have hmj : l[j] ∈ l.take i := List.mem_take_iff_getElem.2 ⟨j, by omega, rfl⟩
      generalize l[j] = y at hstep hcj hmj
      have kk : ∀ (b : Bool), b = false → T [] w w7.drew [blk k4 (rpC x) 115, blk k1 (rcC seq row p l.length c) 99] := fun _ _ => h7.drew
      refine ⟨fun w' => T [] w w' [blk k4 (rpC x) 115, blk k1 (rcC seq row p l.length c) 99], h7.drew, _, _, _, fun w' h' => sl h' (by repeat (first | exact List.Mem.head _ | refine List.Mem.tail _ ?_)), a, ha, by omega, by omega, y.col, fun w' h' => by rw [Int.toNat_natCast]; exact (hcj w' h'.chg.ext).1, x.col, fun w' h' => h'.ld (b := k4) (c := rpC x) (by repeat (first | exact List.Mem.head _ | refine List.Mem.tail _ ?_)) rfl, beq_t fun hcc => ?_, beq_f fun hcn => ?_⟩
      · refine ⟨_, _, _, fun w' h' => sl h' (by repeat (first | exact List.Mem.head _ | refine List.Mem.tail _ ?_)), a, ha, by omega, by omega, y.off, fun w' h' => by rw [Int.toNat_natCast]; exact (hcj w' h'.chg.ext).2.1, x.off, fun w' h' => h'.ld (b := k4) (c := rpC x) (i := 1) (by repeat (first | exact List.Mem.head _ | refine List.Mem.tail _ ?_)) rfl, beq_t fun hoo => ?_, beq_f fun hon => ?_⟩
        · refine bad h7.drew.chg.ext fun hp => ?_
          have h1 : ((l.take (i + 1)).map fun x => (x.col, x.off)).Nodup := List.Nodup.sublist ((List.take_sublist _ _).map _) hp.2.2.2.2.2
          rw [hnext, List.nodup_append] at h1
          exact h1.2.2 (x.col, x.off) (List.mem_map.2 ⟨y, hmj, by rw [hcc, hoo]⟩) _ List.mem_cons_self rfl
        · exact ⟨⟨j + 1, by rw [hjx], by omega, hstep y rfl (fun hh => hon hh.2), h7.drew⟩, hjm⟩
      · exact ⟨⟨j + 1, by rw [hjx], by omega, hstep y rfl (fun hh => hcn hh.1), h7.drew⟩, hjm⟩
    · have hje : j = i := by omega
      subst hje
      refine ⟨⟨j + 1, by rw [hnx], by omega, fun y hy => ?_, ?_, T.drop h7⟩, hms⟩
      · rw [List.take_add_one, List.getElem?_eq_getElem hlt] at hy
        rcases List.mem_append.1 hy with hy | hy
        · exact hr y hy
        · have : y = x := by rw [hx] at hy; simpa using hy
          rw [this]; omega
      · rw [hnext, List.nodup_append]
        exact ⟨hnd, by simp, fun u hu v hv e => by
          have : v = (x.col, x.off) := by simpa using hv
          rw [e, this] at hu
          obtain ⟨y, hy, hyx⟩ := List.mem_map.1 hu
          exact hne y hy ⟨congrArg Prod.fst hyx, congrArg Prod.snd hyx⟩⟩
  · have hie : i = l.length := by omega
    subst hie
    rw [List.take_length] at hr hnd
    exact ⟨by rw [decide_eq_true ⟨by omega, by omega, by omega, by omega, hr, hnd⟩], h2.chg.ext⟩
theorem rmay12r_spec {seq : Nat} {row : Int} {p : Option Addr} {c : Nat} {l : List RP} {w : World} (H : partsAt w p l) (hl : l.length ≤ 1000000) : Ret Tryz.prog 93 #[.agg (rcC seq row p l.length c)] w (.bool (decide (PlacedR row l) && decide (LoadedR l))) := by
  refine ret_of (revetmentref12_May_calls ?_)
  unfold revetmentref12_May
  refine Alloc.t (T.nil w) fun k1 w1 h1 => ?_
  have h1 : T [] w w1 [blk k1 (rcC seq row p l.length c) 99] := h1
  have sl : ∀ {w' : World} {Γ : List A}, T [] w w' Γ → blk k1 (rcC seq row p l.length c) 99 ∈ Γ → w'.cell? ⟨k1, 2, none⟩ = some (.slice p l.length c) := fun h hm => h.ld (c := rcC seq row p l.length c) (i := 2) hm rfl
  refine ⟨fun vs w' => ∃ i : Nat, vs = [.int .i64 (i : Int)] ∧ i ≤ l.length ∧ (∀ x ∈ l.take i, x.data.length = 64) ∧ T [] w w' [blk k1 (rcC seq row p l.length c) 99], fun vs _ => match vs with | [.int _ i] => (l.length - i).toNat | _ => 0, ⟨0, rfl, by omega, by simp, h1⟩, ?_⟩
  rintro vs w2 ⟨i, rfl, hi, hr, h2⟩
  refine ⟨_, rfl, _, _, _, sl h2 (by repeat (first | exact List.Mem.head _ | refine List.Mem.tail _ ?_)), dec_t fun hlt => ?_, dec_f fun hge => ?_⟩
  · have hlt : i < l.length := by omega
    obtain ⟨a, ha, _⟩ := H.get hlt
    obtain ⟨c0, c1, c2⟩ := cellsOf_parts H h2.chg.ext ha hlt
    have hmem : l[i] ∈ l := List.getElem_mem hlt
    generalize hx : l[i] = x at c0 c1 c2 hmem
    refine ⟨_, _, _, sl h2 (by repeat (first | exact List.Mem.head _ | refine List.Mem.tail _ ?_)), a, ha, by omega, by omega, strB x.data, by rw [Int.toNat_natCast]; exact c2, ?_⟩
    rw [strB_size]
    refine ⟨bne_t fun hne => ⟨?_, h2.chg.ext⟩, bne_f fun heq => ⟨⟨i + 1, ?_, by omega, fun y hy => ?_, h2⟩, ?_⟩⟩
    · rw [decide_eq_false (p := LoadedR l) fun hp => by have := hp x hmem; omega, Bool.and_false]
    · rw [wrap64 _ (by omega) (by omega)]; rfl
    · rw [List.take_add_one, List.getElem?_eq_getElem hlt] at hy
      rcases List.mem_append.1 hy with hy | hy
      · exact hr y hy
      · have : y = x := by rw [hx] at hy; simpa using hy
        rw [this]; omega
    · show ((l.length : Int) - IntKind.i64.wrap ((i : Int) + 1)).toNat < ((l.length : Int) - (i : Int)).toNat
      rw [wrap64 _ (by omega) (by omega)]; omega
  · have hie : i = l.length := by omega
    subst hie
    rw [List.take_length] at hr
    refine ⟨_, _, _, _, _, ⟨h2.ld (b := k1) (c := rcC seq row p l.length c) (by repeat (first | exact List.Mem.head _ | refine List.Mem.tail _ ?_)) rfl, h2.ld (b := k1) (c := rcC seq row p l.length c) (i := 1) (by repeat (first | exact List.Mem.head _ | refine List.Mem.tail _ ?_)) rfl, sl h2 (by repeat (first | exact List.Mem.head _ | refine List.Mem.tail _ ?_))⟩, ?_⟩
    exact (rplaces_spec (seq := seq) (c := c) (H.ext h2.chg.ext) hl).mono fun e w3 ⟨he, hx3⟩ => ⟨_, he, by rw [decide_eq_true (p := LoadedR l) hr, Bool.and_true], h2.chg.ext.trans hx3⟩
theorem rplB_val {x : RP} (h : 0 ≤ x.col ∧ x.col < 10 ∧ 0 ≤ x.off ∧ x.off < 4) : IntKind.u8.wrap (IntKind.i64.wrap (IntKind.i64.wrap (4 * x.col) + x.off)) = ((plB x).toNat : Int) := by
  obtain ⟨c, hc⟩ : ∃ c : Fin 10, x.col = (c.1 : Int) := ⟨⟨x.col.toNat, by omega⟩, by show x.col = ((x.col.toNat : Nat) : Int); omega⟩
  obtain ⟨o, ho⟩ : ∃ o : Fin 4, x.off = (o.1 : Int) := ⟨⟨x.off.toNat, by omega⟩, by show x.off = ((x.off.toNat : Nat) : Int); omega⟩
  unfold plB
  rw [hc, ho, Int.toNat_natCast, Int.toNat_natCast]
  have key : ∀ (c : Fin 10) (o : Fin 4), IntKind.u8.wrap (IntKind.i64.wrap (IntKind.i64.wrap (4 * ((c.1 : Nat) : Int)) + ((o.1 : Nat) : Int))) = ((UInt8.ofNat (4 * c.1 + o.1)).toNat : Int) := by decide +kernel
  exact key c o
theorem rhead12_spec {seq : Nat} {row : Int} {p : Option Addr} {c : Nat} {l : List RP} {sum : B32} {w : World} (hs : seq < 2 ^ 64) (hP : PlacedR row l) (H : partsAt w p l) : Ret Tryz.prog 94 #[.agg (rcC seq row p l.length c), u32v sum] w (.string (strB (headR seq row l sum))) := by
  refine ret_of (revetmentref12_head_calls ?_)
  unfold revetmentref12_head
  have hr0 := hP.1
  have hr1 := hP.2.1
  have hl40 := hP.2.2.2.1
  refine Alloc.t (T.nil w) fun k2 w1 h1 => ?_
  have h1 : T [] w w1 [blk k2 (rcC seq row p l.length c) 99] := h1
  have sl : ∀ {w' : World} {Γ : List A}, T [] w w' Γ → blk k2 (rcC seq row p l.length c) 99 ∈ Γ → w'.cell? ⟨k2, 2, none⟩ = some (.slice p l.length c) := fun h hm => h.ld (c := rcC seq row p l.length c) (i := 2) hm rfl
  refine ⟨_, h1.ld (b := k2) (c := rcC seq row p l.length c) (by repeat (first | exact List.Mem.head _ | refine List.Mem.tail _ ?_)) rfl, _, h1.ld (b := k2) (c := rcC seq row p l.length c) (i := 1) (by repeat (first | exact List.Mem.head _ | refine List.Mem.tail _ ?_)) rfl, _, _, _, sl h1 (by repeat (first | exact List.Mem.head _ | refine List.Mem.tail _ ?_)), ?_⟩
  have e1 : IntKind.u64.wrap row = ((row.toNat : Nat) : Int) := by rw [wrapU64]; omega
  have e2 : IntKind.u64.wrap (l.length : Int) = (l.length : Int) := by rw [wrapU64]; omega
  have e3 : IntKind.u64.wrap ((sum.toNat : Nat) : Int) = (sum.toNat : Int) := by have := b32_lt sum; rw [wrapU64]; omega
  rw [e1, e2, e3]
  refine Alloc.t h1 fun k23 w2 h2 => ?_
  have h2 : T [] w w2 (rowP 57 1 (some k23) 4 4 (u64s [seq, row.toNat, l.length, sum.toNat]) :: [blk k2 (rcC seq row p l.length c) 99]) := blk_row h2 rfl rfl (by decide)
  refine Alloc.t h2 fun k24 w3 h3 => ?_
  have h3 : T [] w w3 (rowP 3 1 (some k24) 4 4 (ints [8, 2, 1, 4]) :: rowP 57 1 (some k23) 4 4 (u64s [seq, row.toNat, l.length, sum.toNat]) :: [blk k2 (rcC seq row p l.length c) 99]) := blk_row h3 rfl rfl (by decide)
  have hfit : ∀ (i n x : Nat), [seq, row.toNat, l.length, sum.toNat][i]? = some n → [8, 2, 1, 4][i]? = some x → n < 256 ^ x := fun i n x hn hx => by
    have s4 := sum.isLt
    have q8 : (256 : Nat) ^ 8 = 2 ^ 64 := by decide
    have q4 : (256 : Nat) ^ 4 = 2 ^ 32 := by decide
    match i, hn, hx with
    | 0, hn, hx => cases hn; cases hx; omega
    | 1, hn, hx => cases hn; cases hx; omega
    | 2, hn, hx => cases hn; cases hx; omega
    | 3, hn, hx => cases hn; cases hx; omega
    | i + 4, hn, _ => simp at hn
  obtain ⟨sP, hsP, hpl, hfr⟩ : ∃ sP, encP [seq, row.toNat, l.length, sum.toNat] [8, 2, 1, 4] = sP ∧ sP.length = 15 ∧ magJ ++ sP = frontR seq row l.length sum := ⟨_, rfl, encP_len [seq, row.toNat, l.length, sum.toNat] [8, 2, 1, 4] rfl, by unfold frontR; rfl⟩
  have hpk := rencode_spec (ns := [seq, row.toNat, l.length, sum.toNat]) (ws := [8, 2, 1, 4]) wid4 rfl hfit h3 (g1 := some k23) (g2 := some k24) (n1 := 4) (n2 := 4) (c1 := 4) (c2 := 4) rfl rfl (List.mem_cons_of_mem _ List.mem_cons_self) List.mem_cons_self
  rw [hsP] at hpk
  refine hpk.mono fun e w4 ⟨he4, h4⟩ => ⟨_, _, he4, ?_⟩
  have h4 : T [] w w4 [blk k2 (rcC seq row p l.length c) 99] := h4.drop.drop
  have eJ : (ByteArray.mk #[82, 86, 84, 74]) = strB magJ := rfl
  rw [eJ, strB_append, hfr, strB_size, strB_size, hpl]
  refine ⟨by decide, ?_⟩
  have hfl := frontR_len seq row l.length sum
  refine ⟨fun vs w' => ∃ (i : Nat), vs = [.string (strB (frontR seq row l.length sum ++ (l.take i).map plB)), .int .i64 (i : Int)] ∧ i ≤ l.length ∧ T [] w w' [blk k2 (rcC seq row p l.length c) 99], fun vs _ => match vs with | [_, .int _ i] => (l.length - i).toNat | _ => 0, ⟨0, by simp, by omega, h4⟩, ?_⟩
  rintro vs w5 ⟨i, rfl, hi, h5⟩
  refine ⟨_, _, rfl, _, _, _, sl h5 (by repeat (first | exact List.Mem.head _ | refine List.Mem.tail _ ?_)), dec_t fun hlt => ?_, dec_f fun hge => ?_⟩
  · have hlt : i < l.length := by omega
    obtain ⟨a, ha, _⟩ := H.get hlt
    have hcj := fun (w' : World) (hx : Ext w w') => cellsOf_parts H hx ha hlt
    have hmem : l[i] ∈ l := List.getElem_mem hlt
    have hnext : (l.take (i + 1)).map plB = (l.take i).map plB ++ [plB l[i]] := by rw [List.take_add_one, List.getElem?_eq_getElem hlt, List.map_append]; rfl
    generalize l[i] = x at hcj hmem hnext
    refine ⟨fun w' => ∃ Δ, T [] w w' (Δ ++ [blk k2 (rcC seq row p l.length c) 99]), ⟨[], h5.drew⟩, _, _, _, fun w' ⟨Δ, h'⟩ => sl h' (List.mem_append_right _ List.mem_cons_self), a, ha, by omega, by omega, x.col, fun w' ⟨Δ, h'⟩ => by rw [Int.toNat_natCast]; exact (hcj w' h'.chg.ext).1, _, _, _, fun w' ⟨Δ, h'⟩ => sl h' (List.mem_append_right _ List.mem_cons_self), a, ha, by omega, by omega, x.off, fun w' ⟨Δ, h'⟩ => by rw [Int.toNat_natCast]; exact (hcj w' h'.chg.ext).2.1, ?_⟩
    rw [rplB_val (hP.2.2.2.2.1 x hmem)]
    refine Alloc.t h5.drew fun k53 w6 h6 => ⟨⟨[_], h6⟩, ?_⟩
    have h6 : T [] w w6 (rowP 5 1 (some k53) 1 1 (bvals [plB x]) :: [blk k2 (rcC seq row p l.length c) 99]) := blk_row h6 rfl rfl (by decide)
    refine ⟨strB [plB x], fun x0 e0 => by subst e0; exact row_string h6 List.mem_cons_self, ?_, ⟨i + 1, ?_, by omega, h6.drop⟩, ?_⟩
    · rw [strB_size, strB_size, List.length_append, hfl, List.length_map, List.length_take]
      simp; omega
    · rw [strB_append, hnext, List.append_assoc, wrap64 _ (by omega) (by omega)]; rfl
    · show ((l.length : Int) - IntKind.i64.wrap ((i : Int) + 1)).toNat < ((l.length : Int) - (i : Int)).toNat
      rw [wrap64 _ (by omega) (by omega)]; omega
  · have hie : i = l.length := by omega
    subst hie
    rw [List.take_length]
    exact (rseal_spec (strB (frontR seq row l.length sum ++ l.map plB)) 64 (by rw [strB_size, List.length_append, hfl, List.length_map]; omega) (by omega) w5).mono fun e w7 ⟨he7, hx7⟩ => ⟨_, _, he7, rfl, h5.chg.ext.trans hx7⟩
end Go.Proofs.YtbecjmfcppginaaGreat
end
section
/-! The reference's record: Encode, Head. -/
namespace Go.Proofs.YtbecjmfcppginaaGreat
open Go.Sh Go.RowKit
set_option linter.unusedVariables false
set_option linter.unusedSimpArgs false
set_option maxRecDepth 20000
set_option maxHeartbeats 1000000
section
variable {F : List Nat} {w0 w : World} {Γ : List A}
theorem rencode12_bad (hT : T F w0 w Γ) {seq : Nat} {row : Int} {g : Option Nat} {c : Nat} {l : List RP} (hm : rowP 115 3 g l.length c (rpL l) ∈ Γ) (hl : l.length ≤ 1000000) (hn : ¬ (PlacedR row l ∧ LoadedR l)) :
    Calls Tryz.prog 61 #[.agg (rcC seq row (ptr g) l.length c)] w fun e w' => e = .returned (.tuple #[.string (ByteArray.mk #[]), .slice none 0 0, .int .i64 1]) ∧ T F w0 w' Γ := by
  refine (revetmentref12_Encode_calls (R := fun v w' => v = .tuple #[.string (ByteArray.mk #[]), .slice none 0 0, .int .i64 1] ∧ T F w0 w' Γ) ?_).mono fun e w' ⟨v, he, hv, h⟩ => ⟨by rw [he, hv], h⟩
  unfold revetmentref12_Encode
  refine Alloc.t hT fun k1 w1 h1 => ⟨_, _, _, _, _, ⟨h1.ld (b := k1) (c := rcC seq row (ptr g) l.length c) List.mem_cons_self rfl, h1.ld (b := k1) (c := rcC seq row (ptr g) l.length c) (i := 1) List.mem_cons_self rfl, h1.ld (b := k1) (c := rcC seq row (ptr g) l.length c) (i := 2) List.mem_cons_self rfl⟩, ?_⟩
  refine (rmay12r_spec (seq := seq) (row := row) (c := c) (T.parts12 h1 (List.mem_cons_of_mem _ hm)) hl).mono fun e w2 ⟨he, hx2⟩ => ⟨_, he, yes ?_ ⟨rfl, (h1.quiet hx2).drop⟩⟩
  by_cases hp : PlacedR row l
  · rw [decide_eq_true hp, decide_eq_false fun hq => hn ⟨hp, hq⟩]; rfl
  · rw [decide_eq_false hp]; rfl
theorem rencode12_good (hT : T F w0 w Γ) {seq : Nat} {row : Int} {g : Option Nat} {c : Nat} {l : List RP} (hs : seq < 2 ^ 64) (hm : rowP 115 3 g l.length c (rpL l) ∈ Γ) (hP : PlacedR row l) (hL : LoadedR l) :
    Calls Tryz.prog 61 #[.agg (rcC seq row (ptr g) l.length c)] w fun e w' => ∃ g' cap, e = .returned (.tuple #[.string (strB (headR seq row l (sumR l))), .slice (ptr g') l.length cap, .int .i64 0]) ∧ T F w0 w' (rowP 9 1 g' l.length cap (strV (datas l)) :: Γ) := by
  refine (revetmentref12_Encode_calls (R := fun v w' => ∃ g' cap, v = .tuple #[.string (strB (headR seq row l (sumR l))), .slice (ptr g') l.length cap, .int .i64 0] ∧ T F w0 w' (rowP 9 1 g' l.length cap (strV (datas l)) :: Γ)) ?_).mono fun e w' ⟨v, he, g', cap, hv, h⟩ => ⟨g', cap, by rw [he, hv], h⟩
  unfold revetmentref12_Encode
  have hl40 := hP.2.2.2.1
  have rd : ∀ {w' : World} {Δ : List A} {k1 : Nat}, T F w0 w' Δ → blk k1 (rcC seq row (ptr g) l.length c) 99 ∈ Δ → w'.cell? ⟨k1, 0, none⟩ = some (.int .u64 (seq : Int)) ∧ w'.cell? ⟨k1, 1, none⟩ = some (.int .i64 row) ∧ w'.cell? ⟨k1, 2, none⟩ = some (.slice (ptr g) l.length c) := fun h hm => ⟨h.ld (c := rcC seq row (ptr g) l.length c) hm rfl, h.ld (c := rcC seq row (ptr g) l.length c) (i := 1) hm rfl, h.ld (c := rcC seq row (ptr g) l.length c) (i := 2) hm rfl⟩
  refine Alloc.t hT fun k1 w1 h1 => ⟨_, _, _, _, _, rd h1 List.mem_cons_self, ?_⟩
  refine (rmay12r_spec (seq := seq) (row := row) (c := c) (T.parts12 h1 (List.mem_cons_of_mem _ hm)) (by omega)).mono fun e w2 ⟨he, hx2⟩ => ⟨_, he, no (by rw [decide_eq_true hP, decide_eq_true hL]; rfl) ?_⟩
  have h2 := h1.quiet hx2
  refine Alloc.t h2 fun k11 w3 h3 => ?_
  have h3 : T F w0 w3 (rowP 9 1 (some k11) 0 0 [] :: blk k1 (rcC seq row (ptr g) l.length c) 99 :: Γ) := blk_rowN h3 rfl
  refine ⟨fun vs w' => ∃ (i : Nat) (g' : Option Nat) (cap : Nat), vs = [.string (strB (datas (l.take i)).flatten), .slice (ptr g') i cap, .int .i64 (i : Int)] ∧ i ≤ l.length ∧ T F w0 w' (rowP 9 1 g' i cap (strV (datas (l.take i))) :: blk k1 (rcC seq row (ptr g) l.length c) 99 :: Γ), fun vs _ => match vs with | [_, _, .int _ i] => (l.length - i).toNat | _ => 0, ⟨0, some k11, 0, rfl, by omega, h3⟩, ?_⟩
  rintro vs w4 ⟨i, g3, c3, rfl, hi, h4⟩
  have m1 : blk k1 (rcC seq row (ptr g) l.length c) 99 ∈ (rowP 9 1 g3 i c3 (strV (datas (l.take i))) :: blk k1 (rcC seq row (ptr g) l.length c) 99 :: Γ) := List.mem_cons_of_mem _ List.mem_cons_self
  have hLt : LoadedR (l.take i) := fun x hx => hL x (List.mem_of_mem_take hx)
  have hfl := datas_flat hLt
  rw [List.length_take] at hfl
  refine ⟨_, _, _, _, _, rfl, _, _, _, (rd h4 m1).2.2, dec_t fun hlt => ?_, dec_f fun hge => ?_⟩
  · have hlt : i < l.length := by omega
    obtain ⟨a, ha, q0, q1, q2⟩ := (T.parts12 h4 (List.mem_cons_of_mem _ (List.mem_cons_of_mem _ hm))).get hlt
    have hd : datas (l.take (i + 1)) = datas (l.take i) ++ [(l[i]).data] := by
      rw [List.take_add_one, List.getElem?_eq_getElem hlt]
      show (l.take i ++ [l[i]]).map (·.data) = _
      rw [List.map_append]; rfl
    have hx64 := hL l[i] (List.getElem_mem hlt)
    generalize l[i] = x at q0 q1 q2 hd hx64
    refine ⟨_, _, _, (rd h4 m1).2.2, a, ha, by omega, by omega, strB x.data, by rw [Int.toNat_natCast]; exact q2, ?_, _, _, _, (rd h4 m1).2.2, a, ha, by omega, by omega, strB x.data, by rw [Int.toNat_natCast]; exact q2, ?_⟩
    · rw [strB_size, strB_size, hfl, hx64]; omega
    refine push1_t (P := Tryz.prog) (t := 42) (i := Tryz.t9) (z := .string (ByteArray.mk #[])) (v := .string (strB x.data)) (by kernel_rfl) (by kernel_rfl) (by kernel_rfl) (by kernel_rfl) (by kernel_rfl) (by kernel_rfl) h4 .head rfl (by omega) fun g9 c9 w9 h9 => ⟨⟨i + 1, g9, c9, ?_, by omega, ?_⟩, ?_⟩
    · rw [wrap64 _ (by omega) (by omega), strB_append, hd, List.flatten_append]
      simp
    · rw [hd]; unfold strV at h9 ⊢; rw [List.map_append]; exact h9
    · show ((l.length : Int) - IntKind.i64.wrap ((i : Int) + 1)).toNat < ((l.length : Int) - (i : Int)).toNat
      rw [wrap64 _ (by omega) (by omega)]; omega
  · have hie : i = l.length := by omega
    subst hie
    rw [List.take_length] at h4 hfl ⊢
    refine ⟨fun w' => T F w0 w' (rowP 9 1 g3 l.length c3 (strV (datas l)) :: blk k1 (rcC seq row (ptr g) l.length c) 99 :: Γ), h4.drew, _, _, _, _, _, fun w' h' => rd h' (List.mem_cons_of_mem _ List.mem_cons_self), ?_⟩
    refine (rsum_spec (strB (datas l).flatten) (by rw [strB_size]; omega) _).mono fun e w7 ⟨he7, hx7⟩ => ⟨_, he7, h4.drew.quiet hx7, ?_⟩
    have h7 := h4.drew.quiet hx7
    refine (rhead12_spec (seq := seq) (row := row) (c := c) (sum := sumR l) hs hP (T.parts12 h7 (List.mem_cons_of_mem _ (List.mem_cons_of_mem _ hm)))).mono fun e w8 ⟨he8, hx8⟩ => ⟨_, he8, h7.quiet hx8, g3, c3, rfl, T.dropAt (h7.quiet hx8) (.tail .head)⟩
theorem rpart_cells (b : UInt8) : IntKind.i64.wrap (Int.tdiv (IntKind.i64.wrap (b.toNat : Int)) 4) = ((b.toNat / 4 : Nat) : Int) ∧ Int.tmod (IntKind.i64.wrap (b.toNat : Int)) 4 = ((b.toNat % 4 : Nat) : Int) := by
  have key : ∀ n : Fin 256, IntKind.i64.wrap (Int.tdiv (IntKind.i64.wrap ((n.1 : Nat) : Int)) 4) = ((n.1 / 4 : Nat) : Int) ∧ Int.tmod (IntKind.i64.wrap ((n.1 : Nat) : Int)) 4 = ((n.1 % 4 : Nat) : Int) := by decide +kernel
  exact key ⟨b.toNat, b.toNat_lt⟩
theorem rhead12_dec (hT : T F w0 w Γ) (b : List UInt8) (hb : b.length ≤ 1000000) : Calls Tryz.prog 86 #[.string (strB b)] w fun e w' => ∃ g cap, e = .returned (hdV (decH b) g cap) ∧ T F w0 w' (rowP 115 3 g (decH b).1.2.2.1.length cap (rpL (decH b).1.2.2.1) :: Γ) := by
  refine (revetmentref12_Head_calls (R := fun v w' => ∃ g cap, v = hdV (decH b) g cap ∧ T F w0 w' (rowP 115 3 g (decH b).1.2.2.1.length cap (rpL (decH b).1.2.2.1) :: Γ)) ?_).mono fun e w' ⟨v, he, g, cap, hv, h⟩ => ⟨g, cap, by rw [he, hv], h⟩
  unfold revetmentref12_Head
  refine Alloc.t hT fun k2 w1 h1 => ?_
  have h1 : T F w0 w1 ([] ++ blk k2 zR 99 :: Γ) := h1
  have bad : ∀ (w' : World) (Δ : List A) (x : Int), T F w0 w' (Δ ++ blk k2 zR 99 :: Γ) → decH b = (zH, x) →
      St ⟨k2, 0, none⟩ (.int .u64 0) w' fun w2 => St ⟨k2, 1, none⟩ (.int .i64 0) w2 fun w3 => St ⟨k2, 2, none⟩ (.slice none 0 0) w3 fun w4 => ∃ nr2_0 : Int, ∃ nr2_1 : Int, ∃ (pr2_2 : Option Addr) (lr2_2 cr2_2 : Nat), (w4.cell? ⟨k2, 0, none⟩ = some (.int .u64 nr2_0) ∧ w4.cell? ⟨k2, 1, none⟩ = some (.int .i64 nr2_1) ∧ w4.cell? ⟨k2, 2, none⟩ = some (.slice pr2_2 lr2_2 cr2_2)) ∧
        ∃ g cap, (Value.tuple #[.agg #[.int .u64 nr2_0, .int .i64 nr2_1, .slice pr2_2 lr2_2 cr2_2], .int .u32 0, .int .i64 x]) = hdV (decH b) g cap ∧ T F w0 w4 (rowP 115 3 g (decH b).1.2.2.1.length cap (rpL (decH b).1.2.2.1) :: Γ) := by
    intro w' Δ x hT' hd
    have hT' := T.back hT'
    refine St.t (c := zR) (c' := zR) hT' .head (show 0 < 3 by decide) rfl rfl fun w2 h2 => St.t (c := zR) (c' := zR) h2 .head (show 1 < 3 by decide) rfl rfl fun w3 h3 => St.t (c := zR) (c' := zR) h3 .head (show 2 < 3 by decide) rfl rfl fun w4 h4 => ?_
    refine ⟨_, _, _, _, _, ⟨h4.ld (c := zR) List.mem_cons_self rfl, h4.ld (c := zR) (i := 1) List.mem_cons_self rfl, h4.ld (c := zR) (i := 2) List.mem_cons_self rfl⟩, none, 0, ?_, ?_⟩
    · rw [hd]; rfl
    · rw [hd]; exact T.nilRow h4.drop _ _
  rw [strB_size]
  refine ⟨bne_t fun hne => bad w1 [] 31 h1 (by unfold decH; rw [if_pos (by omega)]), bne_f fun heq => ?_⟩
  have h64 : b.length = 64 := by omega
  have eb : (strB b).data.toList = b := rfl
  refine (ropen_spec (strB b) (by rw [strB_size]; omega) w1).mono fun e w5 ⟨he5, hx5⟩ => ⟨_, _, he5, ?_⟩
  rw [eb]
  have h5 := h1.quiet hx5
  refine ⟨not_t fun ho => bad w5 [] 80 h5 (by unfold decH; rw [if_neg (by omega), if_pos ho]), not_f fun ho => ?_⟩
  rw [openB_take h64 ho]
  have hl60 : (b.take 60).length = 60 := by rw [List.length_take]; omega
  have s4 := slice_to (P := Tryz.prog) (t := 9) (k := .i64) (s := strB (b.take 60)) (hi := 4) (w := w5) (by kernel_rfl) (by omega) (by rw [strB_size, hl60]; omega)
  have e4 : (strB (b.take 60)).extract 0 (4 : Int).toNat = strB (b.take 4) := by
    rw [strB_extract, List.drop_zero, List.take_take]; rfl
  rw [e4] at s4
  refine ⟨_, w5, s4, ?_⟩
  have eJ : (ByteArray.mk #[82, 86, 84, 74]) = strB magJ := rfl
  rw [eJ, strB_toList, strB_toList]
  refine ⟨not_t fun hq => bad w5 [] 81 h5 (by unfold decH; rw [if_neg (by omega), if_neg (by rw [ho]; simp), if_pos (by simpa using hq)]), not_f fun hq => ?_⟩
  have hmag : b.take 4 = magJ := by simpa using hq
  have s1 := slice_mid (P := Tryz.prog) (t := 9) (k := .i64) (k' := .i64) (s := strB (b.take 60)) (lo := 4) (hi := 19) (w := w5) (by kernel_rfl) (by omega) (by omega) (by rw [strB_size, hl60]; omega)
  rw [strB_extract] at s1
  have e1 : (((b.take 60).drop (4 : Int).toNat).take ((19 : Int).toNat - (4 : Int).toNat)) = (b.drop 4).take 15 := mid60 b 4 15 (by omega)
  rw [e1] at s1
  refine ⟨_, w5, s1, Alloc.t h5 fun k31 w14 h14 => ?_⟩
  have h14 : T F w0 w14 (rowP 3 1 (some k31) 4 4 (ints [8, 2, 1, 4]) :: blk k2 zR 99 :: Γ) := blk_row h14 rfl rfl (by decide)
  have hl15 : ((b.drop 4).take 15).length = 15 := by rw [List.length_take, List.length_drop]; omega
  refine (rdecode_spec (ws := [8, 2, 1, 4]) wid4 (s := strB ((b.drop 4).take 15)) (by rw [strB_size, hl15]; rfl) h14 (g2 := some k31) (n2 := 4) (c2 := 4) rfl List.mem_cons_self).mono fun e w15 ⟨g35, c35, he15, h15⟩ => ⟨_, _, _, _, he15, ?_⟩
  obtain ⟨b35, rfl⟩ := rowP.pos (h15.says List.mem_cons_self) (by decide)
  rw [dec_four b h64] at h15
  have hho : headOf b = (leN ((b.drop 4).take 8), ((leN ((b.drop 12).take 2) : Nat) : Int), (((b.take 60).drop 19).take (leN ((b.drop 14).take 1))).map partOf, BitVec.ofNat 32 (leN ((b.drop 15).take 4))) := rfl
  have bA : leN ((b.drop 4).take 8) < 2 ^ 64 := by
    have := leN_lt ((b.drop 4).take 8)
    rw [show ((b.drop 4).take 8).length = 8 by rw [List.length_take, List.length_drop]; omega] at this
    have q8 : (256 : Nat) ^ 8 = 2 ^ 64 := by decide
    omega
  have bB : leN ((b.drop 12).take 2) < 65536 := by
    have := leN_lt ((b.drop 12).take 2)
    rw [show ((b.drop 12).take 2).length = 2 by rw [List.length_take, List.length_drop]; omega] at this
    omega
  have bC : leN ((b.drop 14).take 1) < 256 := by
    have := leN_lt ((b.drop 14).take 1)
    rw [show ((b.drop 14).take 1).length = 1 by rw [List.length_take, List.length_drop]; omega] at this
    omega
  have hdec : decH b = if PlacedR (headOf b).2.1 (headOf b).2.2.1 ∧ headR (headOf b).1 (headOf b).2.1 (headOf b).2.2.1 (headOf b).2.2.2 = b then (headOf b, 0) else (zH, 1) := by
    unfold decH; rw [if_neg (by omega), if_neg (by rw [ho]; decide), if_neg (by simpa using hmag)]
  rw [hho] at hdec
  generalize leN ((b.drop 4).take 8) = nA at h15 hdec bA
  generalize leN ((b.drop 12).take 2) = nB at h15 hdec bB
  generalize leN ((b.drop 14).take 1) = nC at h15 hdec bC
  generalize leN ((b.drop 15).take 4) = nD at h15 hdec
  have hl41 : ((b.take 60).drop 19).length = 41 := by rw [List.length_drop, hl60]
  have cellU : ∀ {w' : World} {Δ : List A} (j x : Nat), T F w0 w' Δ → rowP 57 1 (some b35) [8, 2, 1, 4].length c35 (u64s [nA, nB, nC, nD]) ∈ Δ → [nA, nB, nC, nD][j]? = some x → w'.cell? ⟨b35, j, none⟩ = some (.int .u64 (x : Int)) := fun j x h hm hj => rowP.cell (k := j) (h.says hm) (by unfold u64s; rw [List.getElem?_map, hj]; rfl)
  refine ⟨fun w' => ∃ Δ, rowP 57 1 (some b35) [8, 2, 1, 4].length c35 (u64s [nA, nB, nC, nD]) ∈ Δ ∧ T F w0 w' Δ, ⟨_, List.mem_cons_self, h15.drew⟩, ⟨b35, 0, none⟩, rfl, by omega, by decide, (nA : Int), fun w' ⟨Δ, hm', h'⟩ => cellU 0 nA h' hm' rfl, ⟨b35, 0, none⟩, rfl, by omega, by decide, (nB : Int), fun w' ⟨Δ, hm', h'⟩ => by rw [addr_add]; exact cellU 1 nB h' hm' rfl, ?_⟩
  refine Alloc.t h15.drew fun k9 w16 h16 => ⟨⟨_, List.mem_cons_of_mem _ List.mem_cons_self, h16⟩, ?_⟩
  have eB : IntKind.i64.wrap (nB : Int) = (nB : Int) := wrap64 _ (by omega) (by omega)
  have eC : IntKind.i64.wrap (nC : Int) = (nC : Int) := wrap64 _ (by omega) (by omega)
  rw [eB]
  refine St.t (c := zR) (c' := #[.int .u64 (nA : Int), .int .i64 0, .slice none 0 0]) h16 .head (show 0 < 3 by decide) rfl rfl fun w17 h17 => St.t (c' := #[.int .u64 (nA : Int), .int .i64 (nB : Int), .slice none 0 0]) h17 .head (show 1 < 3 by decide) rfl rfl fun w18 h18 => St.t (c' := rcC nA (nB : Int) none 0 0) h18 .head (show 2 < 3 by decide) rfl rfl fun w19 h19 => ?_
  refine ⟨⟨b35, 0, none⟩, rfl, by omega, by decide, (nC : Int), by rw [addr_add]; exact cellU 2 nC h19 (List.mem_cons_of_mem _ List.mem_cons_self) rfl, ?_⟩
  have hbig : ((nC : Nat) : Int) > 40 → ¬ (PlacedR (nB : Int) ((((b.take 60).drop 19).take nC).map partOf) ∧ headR nA (nB : Int) ((((b.take 60).drop 19).take nC).map partOf) (BitVec.ofNat 32 nD) = b) := fun h40 hq => by
    have := hq.1.2.2.2.1
    rw [List.length_map, List.length_take] at this
    omega
  refine ⟨dec_t fun h40 => bad w19 [_, _, _] 1 h19 (by rw [hdec]; exact if_neg (hbig h40)), dec_f fun h40 => ?_⟩
  have h40 : nC ≤ 40 := by omega
  have hpl : (((b.take 60).drop 19).take nC).length = nC := by rw [List.length_take]; omega
  have hpx : ∀ i, i < nC → (((b.take 60).drop 19).take nC)[i]? = some ((b.take 60).getD (19 + i) 0) := fun i hi => by
    rw [List.getElem?_take, if_pos hi, List.getElem?_drop, List.getD_eq_getElem?_getD, List.getElem?_eq_getElem (by omega)]; rfl
  generalize ((b.take 60).drop 19).take nC = pb at hdec hpl hpx
  refine ⟨fun vs w' => ∃ (i : Nat) (g : Option Nat) (cap : Nat), vs = [.int .i64 (i : Int)] ∧ i ≤ nC ∧ T F w0 w' (rowP 115 3 g i cap (rpL ((pb.take i).map partOf)) :: blk k9 (rcC nA (nB : Int) (ptr g) i cap) 99 :: rowP 57 1 (some b35) [8, 2, 1, 4].length c35 (u64s [nA, nB, nC, nD]) :: rowP 3 1 (some k31) 4 4 (ints [8, 2, 1, 4]) :: blk k2 zR 99 :: Γ), fun vs _ => match vs with | [.int _ i] => (nC - i).toNat | _ => 0, ⟨0, none, 0, rfl, by omega, T.nilRow h19 _ _⟩, ?_⟩
  rintro vs w23 ⟨i, g, cap, rfl, hi, h23⟩
  have m2 : ∀ {a1 a2 : A} {L : List A}, a2 ∈ a1 :: a2 :: L := fun {a1 a2 L} => List.mem_cons_of_mem _ List.mem_cons_self
  have m3 : ∀ {a1 a2 a3 : A} {L : List A}, a3 ∈ a1 :: a2 :: a3 :: L := fun {a1 a2 a3 L} => List.mem_cons_of_mem _ (List.mem_cons_of_mem _ List.mem_cons_self)
  refine ⟨_, rfl, ⟨b35, 0, none⟩, rfl, by omega, by decide, (nC : Int), by rw [addr_add]; exact cellU 2 nC h23 m3 rfl, ?_⟩
  rw [eC]
  refine ⟨dec_t fun hlt => ?_, dec_f fun hge => ?_⟩
  · have hlt : i < nC := by omega
    have hxi := hpx i hlt
    have hnext : ∀ x, pb[i]? = some x → rpL ((pb.take i).map partOf) ++ (rpC (partOf x)).toList = rpL ((pb.take (i + 1)).map partOf) := fun x hx => by
      rw [rpL_snoc', List.take_add_one, hx, List.map_append]; rfl
    have ix := index_str (P := Tryz.prog) (t := 9) (k := .i64) (n := 19 + (i : Int)) (s := strB (b.take 60)) (w := w23) (by kernel_rfl) (by omega) (by rw [strB_size, hl60]; omega)
    have e19 : (19 + (i : Int)).toNat = 19 + i := by omega
    have eb60 : (strB (b.take 60)).data.toList = b.take 60 := rfl
    rw [e19, eb60] at ix
    have hnext := hnext _ hxi
    generalize (b.take 60).getD (19 + i) 0 = x at ix hnext
    rw [wrap64 (19 + (i : Int)) (by omega) (by omega)]
    refine ⟨_, w23, ix, _, _, _, h23.ld (b := k9) (c := rcC nA (nB : Int) (ptr g) i cap) (i := 2) m2 rfl, ?_⟩
    rw [(rpart_cells x).1, (rpart_cells x).2]
    refine pushN_t (P := Tryz.prog) (t := 61) (i := Tryz.t115) (z := .agg #[.int .i64 0, .int .i64 0, .string (ByteArray.mk #[])]) (c := rpC (partOf x)) (size := 3) (by kernel_rfl) (by kernel_rfl) (by kernel_rfl) (by kernel_rfl) (by kernel_rfl) (by kernel_rfl) h23 .head rfl (fun u hu => ?_) (by omega) fun g' cap' w28 h28 => ?_
    · have hu : u ∈ [Value.int .i64 (partOf x).col, .int .i64 (partOf x).off, .string (strB (partOf x).data)] := hu
      simp only [List.mem_cons, List.not_mem_nil, or_false] at hu
      rcases hu with rfl | rfl | rfl <;> rfl
    · rw [hnext] at h28
      refine St.t (c := rcC nA (nB : Int) (ptr g) i cap) (c' := rcC nA (nB : Int) (ptr g') (i + 1) cap') h28 (.tail .head) (show 2 < 3 by decide) rfl rfl fun w29 h29 => ⟨⟨i + 1, g', cap', ?_, by omega, h29⟩, ?_⟩
      · rw [wrap64 _ (by omega) (by omega)]; rfl
      · show ((nC : Int) - IntKind.i64.wrap ((i : Int) + 1)).toNat < ((nC : Int) - (i : Int)).toNat
        rw [wrap64 _ (by omega) (by omega)]; omega
  · have hie : i = (pb.map partOf).length := by rw [List.length_map]; omega
    subst hie
    rw [List.take_of_length_le (by rw [List.length_map]; omega)] at h23
    have hps : (pb.map partOf).length ≤ 40 := by rw [List.length_map, hpl]; exact h40
    generalize pb.map partOf = ps at h23 hdec hps
    have rd : ∀ {w' : World} {Δ : List A}, T F w0 w' Δ → blk k9 (rcC nA (nB : Int) (ptr g) ps.length cap) 99 ∈ Δ → w'.cell? ⟨k9, 0, none⟩ = some (.int .u64 (nA : Int)) ∧ w'.cell? ⟨k9, 1, none⟩ = some (.int .i64 (nB : Int)) ∧ w'.cell? ⟨k9, 2, none⟩ = some (.slice (ptr g) ps.length cap) := fun h hm => ⟨h.ld (c := rcC nA (nB : Int) (ptr g) ps.length cap) hm rfl, h.ld (c := rcC nA (nB : Int) (ptr g) ps.length cap) (i := 1) hm rfl, h.ld (c := rcC nA (nB : Int) (ptr g) ps.length cap) (i := 2) hm rfl⟩
    have hD : ∀ {w' : World}, T F w0 w' (rowP 115 3 g ps.length cap (rpL ps) :: blk k9 (rcC nA (nB : Int) (ptr g) ps.length cap) 99 :: rowP 57 1 (some b35) [8, 2, 1, 4].length c35 (u64s [nA, nB, nC, nD]) :: rowP 3 1 (some k31) 4 4 (ints [8, 2, 1, 4]) :: blk k2 zR 99 :: Γ) → ∃ Δ, blk k9 (rcC nA (nB : Int) (ptr g) ps.length cap) 99 ∈ Δ ∧ rowP 57 1 (some b35) [8, 2, 1, 4].length c35 (u64s [nA, nB, nC, nD]) ∈ Δ ∧ T F w0 w' Δ := fun h => ⟨_, m2, m3, h⟩
    have h23d := h23.drew
    refine ⟨fun w' => ∃ Δ, blk k9 (rcC nA (nB : Int) (ptr g) ps.length cap) 99 ∈ Δ ∧ rowP 57 1 (some b35) [8, 2, 1, 4].length c35 (u64s [nA, nB, nC, nD]) ∈ Δ ∧ T F w0 w' Δ, hD h23d, _, _, _, _, _, fun w' ⟨Δ, ha, hb, h'⟩ => rd h' ha, ?_⟩
    refine (rplaces_spec (seq := nA) (row := (nB : Int)) (c := cap) (T.parts12 h23d List.mem_cons_self) (by omega)).mono fun e w28 ⟨he28, hx28⟩ => ⟨_, he28, ?_⟩
    have h28 := h23d.quiet hx28
    refine ⟨hD h28, not_t fun hp => bad w28 [_, _, _, _] 1 h28 (by rw [hdec]; exact if_neg fun hq => of_decide_eq_false hp hq.1), not_f fun hp => ?_⟩
    have hP := of_decide_eq_true hp
    have eD : IntKind.u32.wrap (nD : Int) = ((BitVec.ofNat 32 nD).toNat : Int) := by
      rw [BitVec.toNat_ofNat]; simp [IntKind.wrap, IntKind.bits, IntKind.signed]
    refine ⟨_, _, _, _, _, fun w' ⟨Δ, ha, hb, h'⟩ => rd h' ha, ⟨b35, 0, none⟩, rfl, by omega, by decide, (nD : Int), fun w' ⟨Δ, ha, hb, h'⟩ => by rw [addr_add]; exact cellU 3 nD h' hb rfl, ?_⟩
    rw [eD]
    refine (rhead12_spec (seq := nA) (row := (nB : Int)) (c := cap) (sum := BitVec.ofNat 32 nD) bA hP (T.parts12 h28 List.mem_cons_self)).mono fun e w32 ⟨he32, hx32⟩ => ⟨_, he32, ?_⟩
    have h32 := h28.quiet hx32
    rw [strB_toList, strB_toList]
    refine ⟨hD h32, not_t fun hq => bad w32 [_, _, _, _] 1 h32 (by rw [hdec]; exact if_neg fun hh => by rw [hh.2] at hq; simp at hq), not_f fun hq => ?_⟩
    have hq : headR nA (nB : Int) ps (BitVec.ofNat 32 nD) = b := by simpa using hq
    rw [if_pos ⟨hP, hq⟩] at hdec
    have h32d := h32.drew
    refine ⟨fun w' => ∃ Δ, blk k9 (rcC nA (nB : Int) (ptr g) ps.length cap) 99 ∈ Δ ∧ rowP 57 1 (some b35) [8, 2, 1, 4].length c35 (u64s [nA, nB, nC, nD]) ∈ Δ ∧ T F w0 w' Δ, hD h32d, _, _, _, _, _, fun w' ⟨Δ, ha, hb, h'⟩ => rd h' ha, ⟨b35, 0, none⟩, rfl, by omega, by decide, (nD : Int), fun w' ⟨Δ, ha, hb, h'⟩ => by rw [addr_add]; exact cellU 3 nD h' hb rfl, ?_⟩
    refine St.t (c := zR) (c' := #[.int .u64 (nA : Int), .int .i64 0, .slice none 0 0]) h32d (.tail (.tail (.tail (.tail .head)))) (show 0 < 3 by decide) rfl rfl fun w36 h36 => St.t (c' := #[.int .u64 (nA : Int), .int .i64 (nB : Int), .slice none 0 0]) h36 (.tail (.tail (.tail (.tail .head)))) (show 1 < 3 by decide) rfl rfl fun w37 h37 => St.t (c' := rcC nA (nB : Int) (ptr g) ps.length cap) h37 (.tail (.tail (.tail (.tail .head)))) (show 2 < 3 by decide) rfl rfl fun w38 h38 => ?_
    have h38' := T.dropAt (T.dropAt (T.dropAt h38 (.tail .head)) (.tail .head)) (.tail .head)
    refine ⟨⟨_, m2, m3, h38⟩, _, _, _, _, _, ⟨h38'.ld (c := rcC nA (nB : Int) (ptr g) ps.length cap) m2 rfl, h38'.ld (c := rcC nA (nB : Int) (ptr g) ps.length cap) (i := 1) m2 rfl, h38'.ld (c := rcC nA (nB : Int) (ptr g) ps.length cap) (i := 2) m2 rfl⟩, g, cap, ?_, ?_⟩
    · rw [hdec, eD]; rfl
    · rw [hdec]; exact T.dropAt h38' (.tail .head)
end
end Go.Proofs.YtbecjmfcppginaaGreat
end
