import Derived.Test.YtbecjmfcppginaaM5
import Derived.Test.YtbecjmfcppginaaM11
import Derived.Test.YtbecjmfcppginaaM12
import Derived.Test.YtbecjmfcppginaaM13
section
/-! law13: full, some, heavy, theirs; Same. -/
namespace Go.Proofs.Ytbecjmfcppginaa
open Go.Sh Go.RowKit Go.Maps
set_option linter.unusedVariables false
set_option linter.unusedSimpArgs false
set_option maxRecDepth 20000
set_option maxHeartbeats 1000000
theorem rfull_spec (s : ByteArray) (hs : s.size ≤ 9000000000000000000) (w : World) : Ret Try.prog 34 #[.string s] w (.string (fullB s)) := by
  refine ret_of (revetmentlaw13_full_calls ?_)
  unfold revetmentlaw13_full
  refine (blank_spec w).mono fun e w1 ⟨he, hx⟩ => ⟨_, he, by rw [zeroSec_size]; omega, _, _, slice_to (by kernel_rfl) (by omega) (by rw [ByteArray.size_append, zeroSec_size]; omega), rfl, hx⟩
/-- parts of some texts -/
def someP (i : Nat) (s : ByteArray) : RP := ⟨(i : Int), ((i % 4 : Nat) : Int), (fullB s).data.toList⟩
def someL (l : List ByteArray) : List RP := (l.take 8).mapIdx someP
theorem someL_len (l : List ByteArray) : (someL l).length = min 8 l.length := by unfold someL; rw [List.length_mapIdx, List.length_take]
theorem someL_get {l : List ByteArray} {j : Nat} {x : RP} (h : (someL l)[j]? = some x) : j < 8 ∧ ∃ s, l[j]? = some s ∧ x = someP j s := by
  unfold someL at h
  rw [List.getElem?_mapIdx, List.getElem?_take] at h
  by_cases hj : j < 8
  · rw [if_pos hj] at h
    cases hl : l[j]? with
    | none => rw [hl] at h; cases h
    | some s => rw [hl] at h; cases h; exact ⟨hj, s, rfl, rfl⟩
  · rw [if_neg hj] at h; cases h
theorem someL_nodup (l : List ByteArray) : ((someL l).map fun x => (x.col, x.off)).Nodup := by
  rw [List.nodup_iff_pairwise_ne, List.pairwise_iff_getElem]
  intro i j hi hj hij
  rw [List.getElem_map, List.getElem_map]
  rw [List.length_map] at hi hj
  obtain ⟨_, s, _, e1⟩ := someL_get (List.getElem?_eq_getElem hi)
  obtain ⟨_, t, _, e2⟩ := someL_get (List.getElem?_eq_getElem hj)
  rw [e1, e2]
  intro e
  have := (Prod.mk.inj e).1
  have : (i : Int) = (j : Int) := this
  omega
theorem someL_ok {l : List ByteArray} (h : l ≠ []) {row : Int} (h0 : 0 ≤ row) (h1 : row < 256) : PlacedR row (someL l) ∧ LoadedR (someL l) := by
  have hl : 0 < l.length := List.length_pos_iff.2 h
  refine ⟨⟨h0, h1, by rw [someL_len]; omega, by rw [someL_len]; omega, fun x hx => ?_, someL_nodup l⟩, fun x hx => ?_⟩
  · obtain ⟨j, hj⟩ := List.mem_iff_getElem?.1 hx
    obtain ⟨h8, s, _, rfl⟩ := someL_get hj
    show 0 ≤ (j : Int) ∧ (j : Int) < 10 ∧ 0 ≤ ((j % 4 : Nat) : Int) ∧ ((j % 4 : Nat) : Int) < 4
    omega
  · obtain ⟨j, hj⟩ := List.mem_iff_getElem?.1 hx
    obtain ⟨h8, s, _, rfl⟩ := someL_get hj
    exact fullB_size s
theorem someL_next {l : List ByteArray} {i : Nat} (hi : i < l.length) (h8 : i < 8) : someL (l.take (i + 1)) = someL (l.take i) ++ [someP i (l.getD i noB)] := by
  unfold someL
  rw [List.take_take, List.take_take, Nat.min_eq_right (by omega), Nat.min_eq_right (by omega), List.take_add_one, List.getElem?_eq_getElem hi, List.getD_eq_getElem?_getD, List.getElem?_eq_getElem hi]
  show List.mapIdx someP (l.take i ++ [l[i]]) = _
  rw [List.mapIdx_append]
  rw [List.length_take, Nat.min_eq_left (by omega)]
  simp [List.mapIdx_cons]
theorem someL_take {l : List ByteArray} {i : Nat} (h : i = l.length ∨ 8 ≤ i) : someL (l.take i) = someL l := by
  unfold someL
  rw [List.take_take]
  rcases h with rfl | h
  · congr 1
    rcases Nat.le_total 8 l.length with h2 | h2
    · rw [Nat.min_eq_left h2]
    · rw [Nat.min_eq_right h2, List.take_of_length_le (by omega), List.take_of_length_le h2]
  · rw [Nat.min_eq_left h]
theorem rpL_snoc' (l : List RP) (x : RP) : rpL l ++ (rpC x).toList = rpL (l ++ [x]) := by simp [rpL]
theorem blk_rowN {F : List Nat} {w0 w : World} {Γ : List A} {k : Nat} {e : TypeId} {c : Array Value} {size : Nat} (hT : T F w0 w (blk k c e :: Γ)) (hc : c = #[]) : T F w0 w (rowP e size (some k) 0 0 [] :: Γ) :=
  hT.weak rfl fun g hg => ⟨by simp, Nat.le_refl _, by simp only [maxLen]; omega, c, hg, by rw [hc]; simp, by simp⟩
section
variable {w0 w : World} {Γ : List A}
theorem some_spec {F : List Nat} (hT : T F w0 w Γ) {p : Option Addr} {l : List ByteArray} {c : Nat} (hs : ∀ w' Δ, T F w0 w' (Δ ++ Γ) → strsAt w' p l) (hk : ∀ s ∈ l, s.size ≤ 100) (hl : l.length ≤ 1000000) :
    Calls Try.prog 13 #[.slice p l.length c] w fun e w' => ∃ g cap, e = .returned (.slice (ptr g) (someL l).length cap) ∧ T F w0 w' (rowP 84 3 g (someL l).length cap (rpL (someL l)) :: Γ) := by
  refine (revetmentlaw13_some_calls (R := fun v w' => ∃ g cap, v = .slice (ptr g) (someL l).length cap ∧ T F w0 w' (rowP 84 3 g (someL l).length cap (rpL (someL l)) :: Γ)) ?_).mono fun e w' ⟨v, he, g, cap, hv, h⟩ => ⟨g, cap, by rw [he, hv], h⟩
  unfold revetmentlaw13_some
  refine Alloc.t hT fun k5 w1 h1 => ?_
  have h1 : T F w0 w1 (rowP 84 3 (some k5) 0 0 [] :: Γ) := blk_rowN h1 rfl
  refine ⟨fun vs w' => ∃ (i : Nat) (g : Option Nat) (cap : Nat), vs = [.slice (ptr g) i cap, .int .i64 (i : Int)] ∧ i ≤ l.length ∧ i ≤ 8 ∧ T F w0 w' (rowP 84 3 g i cap (rpL (someL (l.take i))) :: Γ), fun vs _ => match vs with | [_, .int _ i] => (l.length - i).toNat | _ => 0, ⟨0, some k5, 0, rfl, by omega, by omega, h1⟩, ?_⟩
  rintro vs w2 ⟨i, g, cap, rfl, hi, hi8, h2⟩
  have hfin : (i = l.length ∨ 8 ≤ i) → ∃ g' cap', Value.slice (ptr g) i cap = .slice (ptr g') (someL l).length cap' ∧ T F w0 w2 (rowP 84 3 g' (someL l).length cap' (rpL (someL l)) :: Γ) := fun hh => by
    have hn : (someL l).length = i := by rw [someL_len]; omega
    rw [someL_take hh] at h2
    rw [hn]
    exact ⟨g, cap, rfl, h2⟩
  refine ⟨_, _, _, _, rfl, dec_t fun hlt => ⟨dec_t fun h8 => ?_, dec_f fun h8 => hfin (by omega)⟩, dec_f fun hge => hfin (by omega)⟩
  have hlt : i < l.length := by omega
  obtain ⟨a, ha, hc⟩ := (hs w2 [_] h2).get (n := (i : Int)) (by omega) (by omega)
  rw [Int.toNat_natCast] at hc
  have hmem : l.getD i noB ∈ l := by rw [List.getD_eq_getElem?_getD, List.getElem?_eq_getElem hlt]; exact List.getElem_mem hlt
  have hsz := hk _ hmem
  have hnext := someL_next hlt (by omega)
  generalize l.getD i noB = s at hc hsz hnext
  refine ⟨a, ha, by omega, by omega, s, by rw [Int.toNat_natCast]; exact hc, ?_⟩
  refine (rfull_spec s (by omega) w2).mono fun e w3 ⟨he3, hx3⟩ => ⟨_, he3, ?_⟩
  have e4 : Int.tmod (i : Int) 4 = ((i % 4 : Nat) : Int) := by rw [Int.tmod_eq_emod_of_nonneg (by omega)]; omega
  rw [e4]
  refine pushN_t (P := Try.prog) (t := 37) (i := Try.t84) (z := .agg #[.int .i64 0, .int .i64 0, .string (ByteArray.mk #[])]) (c := rpC (someP i s)) (size := 3) (by kernel_rfl) (by kernel_rfl) (by kernel_rfl) (by kernel_rfl) (by kernel_rfl) (by kernel_rfl) (h2.quiet hx3) .head rfl (fun u hu => ?_) (by omega) fun g' cap' w28 h28 => ?_
  · have hu : u ∈ [Value.int .i64 (i : Int), .int .i64 ((i % 4 : Nat) : Int), .string (strB (fullB s).data.toList)] := hu
    simp only [List.mem_cons, List.not_mem_nil, or_false] at hu
    rcases hu with rfl | rfl | rfl <;> rfl
  · rw [rpL_snoc', ← hnext] at h28
    refine ⟨⟨i + 1, g', cap', ?_, by omega, by omega, h28⟩, ?_⟩
    · rw [wrap64 _ (by omega) (by omega)]; rfl
    · show ((l.length : Int) - IntKind.i64.wrap ((i : Int) + 1)).toNat < ((l.length : Int) - (i : Int)).toNat
      rw [wrap64 _ (by omega) (by omega)]; omega
theorem theirs_spec {F : List Nat} (hT : T F w0 w Γ) {g : Option Nat} {c : Nat} {l : List RP} (hm : rowP 84 3 g l.length c (rpL l) ∈ Γ) (hl : l.length ≤ 1000000) :
    Calls Try.prog 22 #[.slice (ptr g) l.length c] w fun e w' => ∃ g' cap, e = .returned (.slice (ptr g') l.length cap) ∧ T F w0 w' (rowP 96 3 g' l.length cap (rpL l) :: Γ) := by
  refine (revetmentlaw13_theirs_calls (R := fun v w' => ∃ g' cap, v = .slice (ptr g') l.length cap ∧ T F w0 w' (rowP 96 3 g' l.length cap (rpL l) :: Γ)) ?_).mono fun e w' ⟨v, he, g, cap, hv, h⟩ => ⟨g, cap, by rw [he, hv], h⟩
  unfold revetmentlaw13_theirs
  refine Alloc.t hT fun k5 w1 h1 => ?_
  have h1 : T F w0 w1 (rowP 96 3 (some k5) 0 0 [] :: Γ) := blk_rowN h1 rfl
  refine ⟨fun vs w' => ∃ (i : Nat) (g' : Option Nat) (cap : Nat), vs = [.slice (ptr g') i cap, .int .i64 (i : Int)] ∧ i ≤ l.length ∧ T F w0 w' (rowP 96 3 g' i cap (rpL (l.take i)) :: Γ), fun vs _ => match vs with | [_, .int _ i] => (l.length - i).toNat | _ => 0, ⟨0, some k5, 0, rfl, by omega, h1⟩, ?_⟩
  rintro vs w2 ⟨i, g2, cap, rfl, hi, h2⟩
  refine ⟨_, _, _, _, rfl, dec_t fun hlt => ?_, dec_f fun hge => ?_⟩
  · have hlt : i < l.length := by omega
    obtain ⟨a, ha, c0, c1, c2⟩ := (T.parts h2 (List.mem_cons_of_mem _ hm)).1.get hlt
    have hnext : rpL (l.take i) ++ (rpC l[i]).toList = rpL (l.take (i + 1)) := by
      rw [rpL_snoc', List.take_add_one, List.getElem?_eq_getElem hlt]; rfl
    generalize l[i] = x at c0 c1 c2 hnext
    refine ⟨a, ha, by omega, by omega, _, _, _, ⟨by rw [Int.toNat_natCast]; exact c0, by rw [Int.toNat_natCast]; exact c1, by rw [Int.toNat_natCast]; exact c2⟩, ?_⟩
    refine pushN_t (P := Try.prog) (t := 51) (i := Try.t96) (z := .agg #[.int .i64 0, .int .i64 0, .string (ByteArray.mk #[])]) (c := rpC x) (size := 3) (by kernel_rfl) (by kernel_rfl) (by kernel_rfl) (by kernel_rfl) (by kernel_rfl) (by kernel_rfl) h2 .head rfl (fun u hu => ?_) (by omega) fun g' cap' w28 h28 => ?_
    · have hu : u ∈ [Value.int .i64 x.col, .int .i64 x.off, .string (strB x.data)] := hu
      simp only [List.mem_cons, List.not_mem_nil, or_false] at hu
      rcases hu with rfl | rfl | rfl <;> rfl
    · rw [hnext] at h28
      refine ⟨⟨i + 1, g', cap', ?_, by omega, h28⟩, ?_⟩
      · rw [wrap64 _ (by omega) (by omega)]; rfl
      · show ((l.length : Int) - IntKind.i64.wrap ((i : Int) + 1)).toNat < ((l.length : Int) - (i : Int)).toNat
        rw [wrap64 _ (by omega) (by omega)]; omega
  · have hie : i = l.length := by omega
    subst hie
    rw [List.take_length] at h2
    exact ⟨g2, cap, rfl, h2⟩
end
/-- too much for the statements -/
def heavyR (L : List ByteArray) : Bool := decide (20 < L.length) || L.any fun x => decide (100 < x.size)
theorem rheavy_spec {L : List ByteArray} {p : Option Addr} {c : Nat} {w : World} (h : strsAt w p L) : Ret Try.prog 7 #[.slice p L.length c] w (.bool (heavyR L)) := by
  refine ret_of (revetmentlaw13_heavy_calls ?_)
  unfold revetmentlaw13_heavy
  refine ⟨dec_t fun h1 => ⟨?_, Ext.refl w⟩, dec_f fun h1 => ?_⟩
  · unfold heavyR; rw [decide_eq_true (by omega)]; rfl
  refine ⟨fun vs w' => w' = w ∧ ∃ i : Nat, vs = [.int .i64 (i : Int)] ∧ i ≤ L.length ∧ (L.take i).any (fun x => decide (100 < x.size)) = false, fun vs _ => match vs with | [.int _ i] => (L.length - i).toNat | _ => 0, ⟨rfl, 0, rfl, by omega, rfl⟩, ?_⟩
  rintro vs w1 ⟨rfl, i, rfl, hi, hs⟩
  refine ⟨_, rfl, dec_t fun hlt => ?_, dec_f fun hge => ?_⟩
  · have hlt : i < L.length := by omega
    obtain ⟨a, ha, hc⟩ := h.get (n := (i : Int)) (by omega) (by omega)
    rw [Int.toNat_natCast] at hc
    have hg : L.getD i noB = L[i] := by simp [List.getD, hlt]
    refine ⟨a, ha, by omega, by omega, _, by rw [Int.toNat_natCast]; exact hc, ?_⟩
    rw [hg]
    refine ⟨dec_t fun hb => ⟨?_, Ext.refl _⟩, dec_f fun hb => ⟨⟨rfl, i + 1, ?_, by omega, ?_⟩, ?_⟩⟩
    · have : L.any (fun x => decide (100 < x.size)) = true := List.any_eq_true.2 ⟨L[i], List.getElem_mem hlt, decide_eq_true (by omega)⟩
      unfold heavyR; rw [this, Bool.or_true]
    · rw [wrap64 _ (by omega) (by omega)]; rfl
    · rw [List.take_add_one, List.getElem?_eq_getElem hlt, List.any_append, hs]
      simp; omega
    · show ((L.length : Int) - IntKind.i64.wrap ((i : Int) + 1)).toNat < ((L.length : Int) - (i : Int)).toNat
      rw [wrap64 _ (by omega) (by omega)]; omega
  · have hie : i = L.length := by omega
    subst hie
    rw [List.take_length] at hs
    refine ⟨?_, Ext.refl _⟩
    unfold heavyR
    rw [hs, decide_eq_false (by omega)]; rfl
theorem heavyR_short {L : List ByteArray} (h : heavyR L = false) : L.length ≤ 20 ∧ ∀ x ∈ L, x.size ≤ 100 := by
  unfold heavyR at h
  simp only [Bool.or_eq_false_iff, decide_eq_false_iff_not, List.any_eq_false, Bool.not_eq_true] at h
  obtain ⟨h1, h3⟩ := h
  exact ⟨by omega, fun x hx => by have := h3 x hx; omega⟩
theorem eq_strB (d : Nat) (w : World) (a b : List UInt8) : (Op.equalIn (d + 1) 9 (.string (strB a)) (.string (strB b))).run Try.prog w = .ok (decide (a = b)) w := by
  rw [run_equalIn_string w d 9 _ _ (by kernel_rfl), strB_toList, strB_toList]
  congr 1
  by_cases h : a = b
  · rw [decide_eq_true h, h]; simp
  · rw [decide_eq_false h]; simpa using h
theorem rpFields : (Try.prog.fieldsOf 96).toList = [Field.mk "Col" 3 0 false "" "" 0, Field.mk "Off" 3 1 false "" "" 8, Field.mk "Data" 9 2 false "" "" 16] := by kernel_rfl
theorem rp0 (a : RP) (w : World) : (part 3 (rpC a) 0).run Try.prog w = .ok (.int .i64 a.col) w := by kernel_rfl
theorem rp1 (a : RP) (w : World) : (part 3 (rpC a) 1).run Try.prog w = .ok (.int .i64 a.off) w := by kernel_rfl
theorem rp2 (a : RP) (w : World) : (part 9 (rpC a) 2).run Try.prog w = .ok (.string (strB a.data)) w := by kernel_rfl
theorem equal_rp (d : Nat) (a b : RP) (w : World) : (Op.equalIn (d + 2) 96 (.agg (rpC a)) (.agg (rpC b))).run Try.prog w = .ok (decide (a = b)) w := by
  rw [run_equalIn_agg w (d + 1) 96 _ _ (by kernel_rfl) (by kernel_rfl), rpFields]
  have h3 : (Op.eqFields (d + 1) (rpC a) (rpC b) []).run Try.prog w = .ok true w := eqNil
  have h2 := eqStep "Data" 9 2 false "" "" 16 (by decide) (rp2 a w) (rp2 b w) (eq_strB d _ _ _) h3
  have h1 := eqStep "Off" 3 1 false "" "" 8 (by decide) (rp1 a w) (rp1 b w) (eq_int d _ _ _) h2
  have h0 := eqStep "Col" 3 0 false "" "" 0 (by decide) (rp0 a w) (rp0 b w) (eq_int d _ _ _) h1
  refine h0.trans ?_
  congr 1
  obtain ⟨a0, a1, a2⟩ := a
  obtain ⟨b0, b1, b2⟩ := b
  simp only [RP.mk.injEq]
  rw [Bool.eq_iff_iff]
  simp
theorem neq_rp (a b : RP) (x y : Operand) (w : World) : (do eqGuard .neq 96 x y (.agg (rpC a)) (.agg (rpC b)); binOp .neq 96 (.agg (rpC a)) (.agg (rpC b)) : Sem Value).run Try.prog w = .ok (.bool (!decide (a = b))) w := by
  rw [Sem.run_bind, run_eqGuard_agg _ _ _ _ _ _ _ (by kernel_rfl), Result.andThen_ok, run_neq_struct, equal_rp 9998 a b w]
  rfl
theorem same12_spec {s1 s2 : Nat} {r1 r2 : Int} {p1 p2 : Option Addr} {c1 c2 : Nat} {l1 l2 : List RP} {w : World} (H1 : partsAt w p1 l1) (H2 : partsAt w p2 l2) (hl : l1.length ≤ 1000000) :
    Ret Try.prog 21 #[.agg (rcC s1 r1 p1 l1.length c1), .agg (rcC s2 r2 p2 l2.length c2)] w (.bool (decide (s1 = s2 ∧ r1 = r2 ∧ l1 = l2))) := by
  refine ret_of (revetmentref12_Same_calls ?_)
  unfold revetmentref12_Same
  refine Alloc.t (T.nil w) fun k2 w1 h1 => Alloc.t h1 fun k3 w2 h2 => ?_
  have h2 : T [] w w2 [blk k3 (rcC s2 r2 p2 l2.length c2) 54, blk k2 (rcC s1 r1 p1 l1.length c1) 54] := h2
  have bad : ∀ {w' : World}, Ext w w' → ¬ (s1 = s2 ∧ r1 = r2 ∧ l1 = l2) → RetR w (.bool (decide (s1 = s2 ∧ r1 = r2 ∧ l1 = l2))) (.bool false) w' := fun hx hn => ⟨by rw [decide_eq_false hn], hx⟩
  refine ⟨_, h2.ld (b := k2) (c := rcC s1 r1 p1 l1.length c1) (by repeat (first | exact List.Mem.head _ | refine List.Mem.tail _ ?_)) rfl, _, h2.ld (b := k3) (c := rcC s2 r2 p2 l2.length c2) (by repeat (first | exact List.Mem.head _ | refine List.Mem.tail _ ?_)) rfl, bne_t fun hne => bad h2.chg.ext (fun hp => by omega), bne_f fun he1 => ?_⟩
  refine ⟨_, h2.ld (b := k2) (c := rcC s1 r1 p1 l1.length c1) (i := 1) (by repeat (first | exact List.Mem.head _ | refine List.Mem.tail _ ?_)) rfl, _, h2.ld (b := k3) (c := rcC s2 r2 p2 l2.length c2) (i := 1) (by repeat (first | exact List.Mem.head _ | refine List.Mem.tail _ ?_)) rfl, bne_t fun hne => bad h2.chg.ext (fun hp => hne hp.2.1), bne_f fun he2 => ?_⟩
  refine ⟨_, _, _, h2.ld (b := k2) (c := rcC s1 r1 p1 l1.length c1) (i := 2) (by repeat (first | exact List.Mem.head _ | refine List.Mem.tail _ ?_)) rfl, _, _, _, h2.ld (b := k3) (c := rcC s2 r2 p2 l2.length c2) (i := 2) (by repeat (first | exact List.Mem.head _ | refine List.Mem.tail _ ?_)) rfl, bne_t fun hne => bad h2.chg.ext (fun hp => by rw [hp.2.2] at hne; exact hne rfl), bne_f fun he3 => ?_⟩
  have he1 : s1 = s2 := by omega
  have he3 : l1.length = l2.length := by omega
  refine ⟨fun vs w' => ∃ i : Nat, vs = [.int .i64 (i : Int)] ∧ i ≤ l1.length ∧ l1.take i = l2.take i ∧ T [] w w' [blk k3 (rcC s2 r2 p2 l2.length c2) 54, blk k2 (rcC s1 r1 p1 l1.length c1) 54], fun vs _ => match vs with | [.int _ i] => (l1.length - i).toNat | _ => 0, ⟨0, rfl, by omega, rfl, h2⟩, ?_⟩
  rintro vs w3 ⟨i, rfl, hi, hs, h3⟩
  refine ⟨_, rfl, _, _, _, h3.ld (b := k2) (c := rcC s1 r1 p1 l1.length c1) (i := 2) (by repeat (first | exact List.Mem.head _ | refine List.Mem.tail _ ?_)) rfl, dec_t fun hlt => ?_, dec_f fun hge => ?_⟩
  · have hlt : i < l1.length := by omega
    have hlt2 : i < l2.length := by omega
    refine ⟨fun w' => T [] w w' [blk k3 (rcC s2 r2 p2 l2.length c2) 54, blk k2 (rcC s1 r1 p1 l1.length c1) 54], h3.drew, _, _, _, fun w' h' => h'.ld (b := k2) (c := rcC s1 r1 p1 l1.length c1) (i := 2) (by repeat (first | exact List.Mem.head _ | refine List.Mem.tail _ ?_)) rfl, ?_⟩
    obtain ⟨a1, ha1, _⟩ := H1.get hlt
    obtain ⟨a2, ha2, _⟩ := H2.get hlt2
    have hn1 : l1.take (i + 1) = l1.take i ++ [l1[i]] := by rw [List.take_add_one, List.getElem?_eq_getElem hlt]; rfl
    have hn2 : l2.take (i + 1) = l2.take i ++ [l2[i]] := by rw [List.take_add_one, List.getElem?_eq_getElem hlt2]; rfl
    have cells1 : ∀ w', T [] w w' [blk k3 (rcC s2 r2 p2 l2.length c2) 54, blk k2 (rcC s1 r1 p1 l1.length c1) 54] → w'.cell? (Addr.add a1 (i * 3)) = some (.int .i64 (l1[i]).col) ∧ w'.cell? (Addr.add (Addr.add a1 (i * 3)) 1) = some (.int .i64 (l1[i]).off) ∧ w'.cell? (Addr.add (Addr.add a1 (i * 3)) 2) = some (.string (strB (l1[i]).data)) := fun w' h' => by
      obtain ⟨a, ha, hh⟩ := (H1.ext h'.chg.ext).get hlt
      rw [ha1] at ha; cases ha; exact hh
    have cells2 : ∀ w', T [] w w' [blk k3 (rcC s2 r2 p2 l2.length c2) 54, blk k2 (rcC s1 r1 p1 l1.length c1) 54] → w'.cell? (Addr.add a2 (i * 3)) = some (.int .i64 (l2[i]).col) ∧ w'.cell? (Addr.add (Addr.add a2 (i * 3)) 1) = some (.int .i64 (l2[i]).off) ∧ w'.cell? (Addr.add (Addr.add a2 (i * 3)) 2) = some (.string (strB (l2[i]).data)) := fun w' h' => by
      obtain ⟨a, ha, hh⟩ := (H2.ext h'.chg.ext).get hlt2
      rw [ha2] at ha; cases ha; exact hh
    have hx1 : l1[i] ∈ l1 := List.getElem_mem hlt
    have hdiff : l1[i] ≠ l2[i] → ¬ (s1 = s2 ∧ r1 = r2 ∧ l1 = l2) := fun hn hp => by
      have := hp.2.2
      subst this
      exact hn rfl
    generalize l1[i] = x at cells1 hn1 hdiff
    generalize l2[i] = y at cells2 hn2 hdiff
    refine ⟨a1, ha1, by omega, by omega, x.col, x.off, strB x.data, fun w' h' => by rw [Int.toNat_natCast]; exact cells1 w' h', _, _, _, fun w' h' => h'.ld (b := k3) (c := rcC s2 r2 p2 l2.length c2) (i := 2) (by repeat (first | exact List.Mem.head _ | refine List.Mem.tail _ ?_)) rfl, a2, ha2, by omega, by omega, y.col, y.off, strB y.data, fun w' h' => by rw [Int.toNat_natCast]; exact cells2 w' h', _, fun w' _ => neq_rp x y _ _ w', fun hb => ?_, fun hb => ⟨⟨i + 1, ?_, by omega, ?_, h3.drew⟩, ?_⟩⟩
    · refine bad h3.drew.chg.ext (hdiff fun e => ?_)
      rw [e] at hb; simp at hb
    · rw [wrap64 _ (by omega) (by omega)]; rfl
    · have : x = y := by simpa using hb
      rw [hn1, hn2, hs, this]
    · show ((l1.length : Int) - IntKind.i64.wrap ((i : Int) + 1)).toNat < ((l1.length : Int) - (i : Int)).toNat
      rw [wrap64 _ (by omega) (by omega)]; omega
  · have hie : i = l1.length := by omega
    subst hie
    rw [List.take_length, he3, List.take_length] at hs
    exact ⟨by rw [decide_eq_true ⟨he1, he2, hs⟩], h3.chg.ext⟩
end Go.Proofs.Ytbecjmfcppginaa
end
section
/-! law13: what is done with a ring. -/
namespace Go.Proofs.Ytbecjmfcppginaa
open Go.Sh Go.RowKit Go.Maps
set_option linter.unusedVariables false
set_option linter.unusedSimpArgs false
set_option maxRecDepth 20000
set_option maxHeartbeats 1000000
/-- a ring stands on a drive -/
def RAt (a : AD) (N S t : Nat) (recs : List (Int × List RP)) : Prop := slotsN (N : Int) = (S : Int) ∧ N ≤ 4096 ∧ ∃ f, a.Hold N f ∧ RI N S t recs f
theorem RAt.few {a : AD} {N S t : Nat} {recs : List (Int × List RP)} (h : RAt a N S t recs) (K : Nat) : a.Few K := by
  obtain ⟨_, _, f, hf, _⟩ := h
  exact hf.few K
theorem RAt.on {a : AD} {N S t : Nat} {recs : List (Int × List RP)} (h : RAt a N S t recs) : a.On N := by
  obtain ⟨_, _, f, hf, _⟩ := h
  exact hf.on
theorem RAt.le {a : AD} {N S t : Nat} {recs : List (Int × List RP)} (h : RAt a N S t recs) : recs.length ≤ S ∧ 1 ≤ S ∧ S ≤ 1000 ∧ t + 1000000 < 2 ^ 64 := by
  obtain ⟨_, _, f, _, hr⟩ := h
  exact ⟨hr.len, hr.one, hr.sle, hr.small⟩
theorem RAt.crash {a : AD} {N S t : Nat} {recs : List (Int × List RP)} (h : RAt a N S t recs) (keep : List UInt8) : RAt (a.crash keep) N S t recs := by
  obtain ⟨h1, h2, f, hf, hr⟩ := h
  exact ⟨h1, h2, f, hf.crash0 keep, hr⟩
theorem slots_fit {N S : Nat} (h : slotsN (N : Int) = (S : Int)) (h1 : 1 ≤ S) : 4 + 41 * S ≤ N := by unfold slotsN at h; omega
theorem format_at {a : AD} {N S : Nat} {f : Nat → ByteArray} (h : a.Wet N f) (hS : slotsN (N : Int) = (S : Int)) (h1 : 1 ≤ S) (hN : N ≤ 4096) : (formatF a).2 = 0 ∧ RAt (formatF a).1 N S 0 [] := by
  have hfit := slots_fit hS h1
  have e : formatF a = runS a ((slotOps S ++ [some (3, strB (markB 0))]) ++ [none]) := by
    unfold formatF
    rw [h.on.len, hS, if_neg (by omega), Int.toNat_natCast, List.append_assoc]; rfl
  have hok : OpsOk N (slotOps S ++ [some (3, strB (markB 0))]) := fun y hy => by
    rcases List.mem_append.1 hy with hy | hy
    · exact slotOps_ok hfit y hy
    · have e := Option.some.inj (List.mem_singleton.1 hy)
      subst e
      exact ⟨by show (0 : Int) ≤ 3; omega, by show (3 : Int) < N; omega, by rw [strB_size]; exact markB_len 0⟩
  obtain ⟨r1, r2⟩ := runS_hold h hok
  rw [e]
  refine ⟨r1, hS, hN, _, r2, ?_⟩
  rw [opsF_app, slotOps_f]
  show RI N S 0 [] (updF (slotF f S) 3 (strB (markB 0)))
  exact RI.made h1 (by omega) hfit
theorem RAt.app {a : AD} {N S t : Nat} {recs : List (Int × List RP)} (h : RAt a N S t recs) (hlt : recs.length < S) {row : Int} {l : List RP} (hP : PlacedR row l) (hL : LoadedR l) :
    (runS a (appOps S (t + 1 + recs.length) row l)).2 = 0 ∧ RAt (runS a (appOps S (t + 1 + recs.length) row l)).1 N S t (recs ++ [(row, l)]) := by
  obtain ⟨h1, h2, f, hf, hr⟩ := h
  have h40 := hP.2.2.2.1
  have hat := ratN_lt (n := t + 1 + recs.length) hr.one hr.fit
  have eat : (4 + 41 * (((t + 1 + recs.length) % S : Nat) : Int)) = (ratN S (t + 1 + recs.length) : Int) := by unfold ratN; omega
  have e : appOps S (t + 1 + recs.length) row l = (loadOps (4 + 41 * (((t + 1 + recs.length) % S : Nat) : Int)) (datas l) l.length ++ [none, some (4 + 41 * (((t + 1 + recs.length) % S : Nat) : Int), strB (headR (t + 1 + recs.length) row l (sumR l)))]) ++ [none] := by
    rw [List.append_assoc]; rfl
  have hok : OpsOk N (loadOps (4 + 41 * (((t + 1 + recs.length) % S : Nat) : Int)) (datas l) l.length ++ [none, some (4 + 41 * (((t + 1 + recs.length) % S : Nat) : Int), strB (headR (t + 1 + recs.length) row l (sumR l)))]) := fun y hy => by
    rw [eat] at hy
    rcases List.mem_append.1 hy with hy | hy
    · exact loadOps_ok ((loaded_datas l).1 hL) (by rw [datas_len]; exact Nat.le_refl _) (by omega) y hy
    · simp only [List.mem_cons, List.not_mem_nil, or_false, reduceCtorEq, false_or, Option.some.injEq] at hy
      subst hy
      exact ⟨by show (0 : Int) ≤ ratN S (t + 1 + recs.length); omega, by show (ratN S (t + 1 + recs.length) : Int) < N; omega, by rw [strB_size]; exact headR_len h40⟩
  obtain ⟨r1, r2⟩ := runS_hold hf.wet hok
  rw [e]
  refine ⟨r1, h1, h2, _, r2, ?_⟩
  rw [appOps_f f S _ row l _ rfl]
  exact hr.append hlt hP hL
theorem RAt.trimmed {a : AD} {N S t m : Nat} {recs : List (Int × List RP)} (h : RAt a N S t recs) (hm : t ≤ m) (hm2 : m ≤ t + recs.length) (hsm : m + 1000000 < 2 ^ 64) :
    ∃ a', trimF a t (t + 1 + recs.length) m = (a', m, 0) ∧ RAt a' N S m (recs.drop (m - t)) := by
  obtain ⟨h1, h2, f, hf, hr⟩ := h
  have hl := hr.len
  have hs := hr.sle
  have hfit := hr.fit
  have hok : OpsOk N [some (3, strB (markB m))] := fun y hy => by
    have e := Option.some.inj (List.mem_singleton.1 hy)
    subst e
    exact ⟨by show (0 : Int) ≤ 3; omega, by show (3 : Int) < N; omega, by rw [strB_size]; exact markB_len m⟩
  obtain ⟨r1, r2⟩ := runS_hold hf.wet hok
  have e : trimOps m = [some (3, strB (markB m))] ++ [none] := rfl
  refine ⟨(runS a (trimOps m)).1, ?_, h1, h2, updF f 3 (strB (markB m)), ?_, ?_⟩
  · unfold trimF
    rw [if_neg (by rw [wrapU64, wrapU64]; omega), e, r1, if_pos rfl]
  · rw [e]; exact r2
  · have := hr.trim (m := m - t) (by omega) (by omega)
    rw [show t + (m - t) = m by omega] at this
    exact this
theorem trim_no {a : AD} {t n m : Nat} (h : m < t ∨ n ≤ m) (ht : t < 2 ^ 62) (hn : n < 2 ^ 62) (hm : m < 2 ^ 62) (htn : t < n) : trimF a t n m = (a, t, 1) := by
  unfold trimF
  rw [if_pos]
  rw [wrapU64, wrapU64]; omega
section
variable {p r : Nat} {a : AD} {F : List Nat} {w0 w : World} {X : List A} {Φ : Ending → World → Prop} {N S t : Nat} {recs : List (Int × List RP)}
theorem rformat_u (h : Dr p a F w0 w X) {f : Nat → ByteArray} (ha : a.Hold N f) (hS : slotsN (N : Int) = (S : Int)) (h1 : 1 ≤ S) (hN : N ≤ 4096) (hk : ∀ a' w', RAt a' N S 0 [] → Dr p a' F w0 w' X → Φ (.returned (.int .i64 0)) w') : Calls Try.prog 10 #[.pointer (some ⟨p, 0, none⟩)] w Φ := by
  obtain ⟨r1, r2⟩ := format_at ha.wet hS h1 hN
  refine (format_spec h (N := 0) (ha.few 0) (by omega) (by rw [ha.on.len]; exact hN)).mono fun e w' ⟨he, hd⟩ => ?_
  rw [he, r1]
  exact hk _ w' r2 hd
theorem ropen_u (h : Dr p a F w0 w X) (hR : RAt a N S t recs) (hk : ∀ r g cap lx w', (lx : List RcX).map (·.1) = numb (t + 1) recs → Dr p a F w0 w' (blk r (rgC p S t (t + 1 + recs.length)) 72 :: rowP 46 3 g recs.length cap (rxL lx) :: (rxOwn lx ++ X)) → Φ (.returned (.tuple #[.pointer (some ⟨r, 0, none⟩), .slice (ptr g) recs.length cap, .int .i64 0])) w') :
    Calls Try.prog 11 #[.pointer (some ⟨p, 0, none⟩)] w Φ := by
  obtain ⟨h1, h2, f, hf, hr⟩ := id hR
  have ho := hr.opened hf.wet h1
  have hsm := hr.small
  have hs := hr.sle
  have hl := hr.len
  refine (open_ring h (hf.few _) (by rw [hf.on.len]; exact h2)).mono fun e w' hh => ?_
  rw [ho, hf.on.len, h1, Int.toNat_natCast] at hh
  rcases hh with ⟨hb, _⟩ | ⟨_, _, r, g, cap, lx, he, hlx, hd⟩
  · exact absurd rfl hb
  · have hlx : lx.map (·.1) = recsF a S S ((t + 1) % 2 ^ 64) := hlx
    rw [Nat.mod_eq_of_lt (by omega), hr.found hf.wet] at hlx
    have hn : lx.length = recs.length := by rw [← List.length_map (f := (·.1)), hlx, numb_len]
    have hd : Dr p a F w0 w' (blk r (rgC p S t ((t + 1 + lx.length) % 2 ^ 64)) 72 :: rowP 46 3 g lx.length cap (rxL lx) :: (rxOwn lx ++ X)) := hd
    rw [hn, Nat.mod_eq_of_lt (by omega)] at hd
    rw [he, hn]
    exact hk r g cap lx w' hlx hd
theorem left_at (hR : RAt a N S t recs) : leftF S t (t + 1 + recs.length) = (S : Int) - recs.length := by
  have := hR.le
  rw [left_val (by omega) (by omega) (by omega)]; omega
theorem rleft_u (h : Dr p a F w0 w X) (hm : blk r (rgC p S t (t + 1 + recs.length)) 72 ∈ X) (hR : RAt a N S t recs) (hk : ∀ w', Dr p a F w0 w' X → Φ (.returned (.int .i64 ((S : Int) - recs.length))) w') : Calls Try.prog 15 #[.pointer (some ⟨r, 0, none⟩)] w Φ :=
  (left_spec h hm).mono fun e w' ⟨he, hx⟩ => by rw [he, left_at hR]; exact hk w' (h.quiet hx)
theorem rnext_u (h : Dr p a F w0 w X) {n : Nat} (hm : blk r (rgC p S t n) 72 ∈ X) (hk : ∀ w', Dr p a F w0 w' X → Φ (.returned (.int .u64 (n : Int))) w') : Calls Try.prog 14 #[.pointer (some ⟨r, 0, none⟩)] w Φ :=
  (next_spec h hm).mono fun e w' ⟨he, hx⟩ => by rw [he]; exact hk w' (h.quiet hx)
theorem rapp_u (h : Dr p a F w0 w (blk r (rgC p S t (t + 1 + recs.length)) 72 :: X)) (hR : RAt a N S t recs) (hlt : recs.length < S) {row : Int} {g : Option Nat} {c n : Nat} {l : List RP} (hn : n = l.length) (hp : rowP 84 3 g l.length c (rpL l) ∈ X) (hP : PlacedR row l) (hL : LoadedR l)
    (hk : ∀ a' w', RAt a' N S t (recs ++ [(row, l)]) → Dr p a' F w0 w' (blk r (rgC p S t (t + 1 + (recs ++ [(row, l)]).length)) 72 :: X) → Φ (.returned (.tuple #[.int .u64 ((t + 1 + recs.length : Nat) : Int), .int .i64 0])) w') :
    Calls Try.prog 12 #[.pointer (some ⟨r, 0, none⟩), .int .i64 row, .slice (ptr g) n c] w Φ := by
  subst hn
  have hle := hR.le
  have hleft := left_at hR
  obtain ⟨r1, r2⟩ := hR.app hlt hP hL
  refine (append_good h (N := 0) (hR.few 0) (by omega) hle.2.1 (by omega) (by omega) (by rw [hleft]; omega) hp hP hL).mono fun e w' ⟨he, hd⟩ => ?_
  rw [he, r1]
  rw [r1, if_pos rfl, Nat.mod_eq_of_lt (by omega)] at hd
  refine hk _ w' r2 ?_
  rw [List.length_append, List.length_singleton, ← Nat.add_assoc]
  exact hd
theorem rbusy_u (h : Dr p a F w0 w X) (hm : blk r (rgC p S t (t + 1 + recs.length)) 72 ∈ X) (hR : RAt a N S t recs) (hfull : recs.length = S) (row : Int) (q : Option Addr) (m c : Nat)
    (hk : ∀ w', Dr p a F w0 w' X → Φ (.returned (.tuple #[.int .u64 0, .int .i64 130])) w') :
    Calls Try.prog 12 #[.pointer (some ⟨r, 0, none⟩), .int .i64 row, .slice q m c] w Φ :=
  (append_busy h hm (by rw [left_at hR]; omega) row q m c).mono fun e w' ⟨he, hd⟩ => by rw [he]; exact hk w' hd
theorem rtrim_u (h : Dr p a F w0 w (blk r (rgC p S t (t + 1 + recs.length)) 72 :: X)) (hR : RAt a N S t recs) {m : Nat} {i : Int} (hi : i = (m : Int)) (hm : t ≤ m) (hm2 : m ≤ t + recs.length) (hsm : m + 1000000 < 2 ^ 64)
    (hk : ∀ a' w', RAt a' N S m (recs.drop (m - t)) → Dr p a' F w0 w' (blk r (rgC p S m (m + 1 + (recs.drop (m - t)).length)) 72 :: X) → Φ (.returned (.int .i64 0)) w') :
    Calls Try.prog 23 #[.pointer (some ⟨r, 0, none⟩), .int .u64 i] w Φ := by
  subst hi
  obtain ⟨a', e, hR'⟩ := hR.trimmed hm hm2 hsm
  refine (trim_spec' h (N := 0) (hR.few 0) (by omega) (m := m) (by omega)).mono fun e' w' ⟨he, hd⟩ => ?_
  rw [e] at he hd
  rw [he]
  refine hk a' w' hR' ?_
  rw [List.length_drop, show m + 1 + (recs.length - (m - t)) = t + 1 + recs.length by omega]
  exact hd
theorem rtrim_bad_u (h : Dr p a F w0 w (blk r (rgC p S t (t + 1 + recs.length)) 72 :: X)) (hR : RAt a N S t recs) (ht : t < 1000000) {m : Nat} {i : Int} (hi : i = (m : Int)) (hm : m < t ∨ t + 1 + recs.length ≤ m) (hm6 : m ≤ 1000000)
    (hk : ∀ w', Dr p a F w0 w' (blk r (rgC p S t (t + 1 + recs.length)) 72 :: X) → Φ (.returned (.int .i64 1)) w') :
    Calls Try.prog 23 #[.pointer (some ⟨r, 0, none⟩), .int .u64 i] w Φ := by
  subst hi
  have hle := hR.le
  have e := trim_no (a := a) hm (by omega) (by omega) (by omega) (by omega)
  refine (trim_spec' h (N := 0) (hR.few 0) (by omega) (m := m) (by omega)).mono fun e' w' ⟨he, hd⟩ => ?_
  rw [e] at he hd
  rw [he]
  exact hk w' hd
theorem rsome_u (h : Dr p a F w0 w X) {q : Option Addr} {l : List ByteArray} {c n : Nat} (hn : n = l.length) (hs : ∀ w' Δ, T F w0 w' (Δ ++ X) → strsAt w' q l) (hk6 : ∀ s ∈ l, s.size ≤ 100) (hl : l.length ≤ 1000000) (hk : ∀ g cap w', Dr p a F w0 w' (rowP 84 3 g (someL l).length cap (rpL (someL l)) :: X) → Φ (.returned (.slice (ptr g) (someL l).length cap)) w') :
    Calls Try.prog 13 #[.slice q n c] w Φ := by
  subst hn
  refine Dr.intoT (Y := []) h fun Γ hT hback => ?_
  refine (some_spec hT (fun w' Δ h' => hs w' Δ ?_) hk6 hl).mono fun e w' ⟨g, cap, he, h'⟩ => ?_
  · rw [← List.append_assoc] at h'
    exact T.dropAll (h'.swap List.perm_append_comm)
  · rw [he]; exact hk g cap w' (hback w' [_] h')
end
theorem Dr.drop2 {p : Nat} {a : AD} {F : List Nat} {w0 w : World} {x y : A} {X : List A} (h : Dr p a F w0 w (x :: y :: X)) : Dr p a F w0 w (x :: X) := (Dr.perm h (.swap _ _ _)).dropX
theorem rshown_spec (w : World) : Ret Try.prog 8 #[] w (.bool true) := by
  refine ret_of (revetmentlaw13_shown_calls ?_)
  unfold revetmentlaw13_shown
  refine new_u (n := 90) (T.nil w) (by omega) fun p w1 h1 => ⟨_, rfl, no rfl ?_⟩
  refine rformat_u (S := 2) h1 (hold_new 90) (by decide) (by decide) (by decide) fun a w2 hR h2 => ⟨_, rfl, no rfl ?_⟩
  refine ropen_u h2 hR fun r g cap lx w3 hlx h3 => ⟨_, _, _, _, _, rfl, no rfl (no rfl (no rfl ?_))⟩
  have e1 : (ByteArray.mk #[97]) = strB [97] := rfl
  rw [e1]
  refine Dr.alloc h3 fun k w4 h4 => ?_
  refine rsome_u (l := [strB [97]]) h4 rfl (fun w' Δ h' => ?_) (by simp [strB_size]) (by decide) fun g2 c2 w5 h5 => ⟨_, _, _, rfl, ?_⟩
  · refine ⟨fun _ => ⟨_, rfl⟩, fun a ha j s hj => ?_⟩
    cases ha
    have hm := h'.ld (b := k) (i := j) (List.mem_append_right _ List.mem_cons_self) (v := .string s) (by
      match j, hj with
      | 0, hj => cases hj; rfl
      | j + 1, hj => simp at hj)
    rw [addr_add, Nat.zero_add]; exact hm
  · have h5 : Dr p a [] w w5 (rowP 84 3 g2 (someL [strB [97]]).length c2 (rpL (someL [strB [97]])) :: blk k #[.string (strB [97])] 9 :: blk r (rgC p 2 0 1) 72 :: (rowP 46 3 g 0 cap (rxL lx) :: (rxOwn lx ++ []))) := h5
    have h5 := Dr.perm h5 (List.perm_middle (l₁ := [_, _]))
    obtain ⟨hP, hL⟩ := someL_ok (l := [strB [97]]) (by simp) (row := 3) (by omega) (by omega)
    refine rapp_u (recs := []) h5 hR (by decide) rfl List.mem_cons_self hP hL fun a' w6 hR' h6 => ⟨_, _, rfl, yes rfl (yes rfl ?_)⟩
    refine rleft_u h6 List.mem_cons_self hR' fun w7 h7 => ⟨_, rfl, yes rfl ?_⟩
    refine rnext_u h7 List.mem_cons_self fun w8 h8 => ⟨_, rfl, yes rfl ?_⟩
    refine (slots_spec 90 (by omega) (by omega) w8).mono fun e w9 ⟨he9, hx9⟩ => ⟨_, he9, ?_, h8.ext.trans hx9⟩
    rfl
theorem rshown_end {w w1 : World} (hx : Ext w w1) : Calls Try.prog 8 #[] w1 fun e w2 => ∃ b : Bool, e = .returned (.bool b) ∧ RetR w (.bool true) (.bool b) w2 :=
  (rshown_spec w1).mono fun e w2 ⟨he, hx2⟩ => ⟨true, he, rfl, hx.trans hx2⟩
end Go.Proofs.Ytbecjmfcppginaa
end
section
/-! law13: RingEmpty, RingBusy. -/
namespace Go.Proofs.Ytbecjmfcppginaa
open Go.Sh Go.RowKit Go.Maps
set_option linter.unusedVariables false
set_option linter.unusedSimpArgs false
set_option maxRecDepth 20000
set_option maxHeartbeats 1000000
theorem bytesAt.get1 {w : World} {p : Option Addr} {l : List UInt8} (h : bytesAt w p l) {i : Nat} (hi : i < l.length) : ∃ a, p = some a ∧ w.cell? (a.add (i * 1)) = some (.int .u8 ((l[i]).toNat : Int)) := by
  obtain ⟨a, ha⟩ := h.1 (by intro e; subst e; simp at hi)
  exact ⟨a, ha, by rw [Nat.mul_one]; exact h.2 a ha i _ (List.getElem?_eq_getElem hi)⟩
theorem u8_row (x : UInt8) : IntKind.i64.wrap (x.toNat : Int) = (x.toNat : Int) ∧ (0 : Int) ≤ (x.toNat : Int) ∧ (x.toNat : Int) < 256 := by
  have := x.toNat_lt
  exact ⟨wrap64 _ (by omega) (by omega), by omega, by omega⟩
theorem empty_law {p0 p1 : Option Addr} {c0 c1 : Nat} {l0 : List UInt8} {l1 : List ByteArray} {w : World} (H0 : bytesAt w p0 l0) (H1 : strsAt w p1 l1) : Ret Try.prog 3 #[.slice p0 l0.length c0, .slice p1 l1.length c1] w (.bool true) := by
  refine ret_of (revetmentlaw13_RingEmpty_calls ?_)
  unfold revetmentlaw13_RingEmpty
  refine (rheavy_spec H1).mono fun e w1 ⟨he, hx1⟩ => ⟨_, he, fun hh => rshown_end hx1, fun hh => ⟨beq_t fun _ => rshown_end hx1, beq_f fun hl1 => ⟨dec_t fun _ => rshown_end hx1, dec_f fun hl0 => ?_⟩⟩⟩
  obtain ⟨h20, h100⟩ := heavyR_short hh
  have hl0 : l0.length ≤ 5 := by omega
  have hne : l1 ≠ [] := fun e => hl1 (by rw [e]; rfl)
  refine (rshown_spec w1).mono fun e w5 ⟨he5, hx5⟩ => ⟨_, he5, no rfl ?_⟩
  have hT := (T.nil w).quiet (hx1.trans hx5)
  refine new_u (n := 209) hT (by omega) fun p w7 h7 => ⟨_, rfl, no rfl ?_⟩
  refine rformat_u (S := 5) h7 (hold_new 209) (by decide) (by decide) (by decide) fun a w8 hR h8 => ⟨_, rfl, no rfl ?_⟩
  refine ropen_u h8 hR fun r g cap lx w9 hlx h9 => ⟨_, _, _, _, _, rfl, no rfl (no rfl ?_)⟩
  generalize rowP 46 3 g ([] : List (Int × List RP)).length cap (rxL lx) :: (rxOwn lx ++ []) = X at h9
  refine ⟨fun vs w' => ∃ (i : Nat) (a : AD) (recs : List (Int × List RP)), vs = [.int .i64 (i : Int)] ∧ i ≤ l0.length ∧ recs.length = i ∧ RAt a 209 5 0 recs ∧ Dr p a [] w w' (blk r (rgC p 5 0 (0 + 1 + recs.length)) 72 :: X), fun vs _ => match vs with | [.int _ i] => (l0.length - i).toNat | _ => 0, ⟨0, a, [], rfl, by omega, rfl, hR, h9⟩, ?_⟩
  rintro vs w10 ⟨i, a1, recs, rfl, hi, hri, hR1, h10⟩
  refine ⟨_, rfl, dec_t fun hlt => ?_, dec_f fun hge => ?_⟩
  · have hlt : i < l0.length := by omega
    obtain ⟨b0, hb0, hc0⟩ := H0.get1 hlt
    obtain ⟨e8, r0, r1⟩ := u8_row (l0[i])
    generalize ((l0[i]).toNat : Int) = row at e8 r0 r1 hc0
    refine ⟨fun w' => Ext w w', (Dr.rdrew h10).ext, b0, hb0, by omega, by omega, row, fun w' hx => by rw [Int.toNat_natCast]; exact cell_ext hx hc0, ?_⟩
    rw [e8]
    obtain ⟨hP, hL⟩ := someL_ok hne r0 r1
    refine rsome_u (Dr.rdrew h10) rfl (fun w' Δ h => H1.ext h.chg.ext) h100 (by omega) fun g2 c2 w11 h11 => ⟨_, _, _, rfl, h11.ext, ?_⟩
    refine rapp_u (Dr.perm h11 (.swap _ _ _)) hR1 (by omega) rfl List.mem_cons_self hP hL fun a' w12 hR' h12 => ⟨_, _, rfl, h12.ext, no rfl ⟨⟨i + 1, a', _, ?_, by omega, ?_, hR', h12.drop2⟩, ?_⟩⟩
    · rw [wrap64 _ (by omega) (by omega)]; rfl
    · rw [List.length_append, hri]; rfl
    · show ((l0.length : Int) - IntKind.i64.wrap ((i : Int) + 1)).toNat < ((l0.length : Int) - (i : Int)).toNat
      rw [wrap64 _ (by omega) (by omega)]; omega
  · obtain ⟨_, _, f, hf, _⟩ := hR1
    refine rformat_u (S := 5) h10 hf (by decide) (by decide) (by decide) fun a2 w13 hR2 h13 => ⟨_, rfl, no rfl ?_⟩
    refine ropen_u h13 hR2 fun r2 g2 cap2 lx2 w14 hlx2 h14 => ⟨_, _, _, _, _, rfl, yes rfl (yes rfl (yes rfl ?_))⟩
    refine rnext_u h14 List.mem_cons_self fun w15 h15 => ⟨_, rfl, yes rfl ?_⟩
    refine rleft_u h15 List.mem_cons_self hR2 fun w16 h16 => ⟨_, rfl, yes rfl ?_⟩
    refine (slots_spec 209 (by omega) (by omega) w16).mono fun e w17 ⟨he17, hx17⟩ => ⟨_, he17, yes rfl ?_⟩
    refine (slots_spec 208 (by omega) (by omega) w17).mono fun e w18 ⟨he18, hx18⟩ => ⟨_, he18, ?_, (h16.ext.trans hx17).trans hx18⟩
    rfl
theorem busy_law {n0 n2 : Int} {p1 : Option Addr} {c1 : Nat} {l1 : List ByteArray} {w : World} (h0 : 0 ≤ n0 ∧ n0 < 256) (h2 : 0 ≤ n2 ∧ n2 < 256) (H1 : strsAt w p1 l1) : Ret Try.prog 5 #[.int .u8 n0, .slice p1 l1.length c1, .int .u8 n2] w (.bool true) := by
  refine ret_of (revetmentlaw13_RingBusy_calls ?_)
  unfold revetmentlaw13_RingBusy
  refine (rheavy_spec H1).mono fun e w1 ⟨he, hx1⟩ => ⟨_, he, fun hh => rshown_end hx1, fun hh => ⟨beq_t fun _ => rshown_end hx1, beq_f fun hl1 => ?_⟩⟩
  obtain ⟨h20, h100⟩ := heavyR_short hh
  have hne : l1 ≠ [] := fun e => hl1 (by rw [e]; rfl)
  obtain ⟨S, hS, hS1, hS6⟩ : ∃ S : Nat, IntKind.i64.wrap (1 + Int.tmod (IntKind.i64.wrap n0) 6) = (S : Int) ∧ 1 ≤ S ∧ S ≤ 6 := by
    refine ⟨(1 + n0 % 6).toNat, ?_, by omega, by omega⟩
    rw [wrap64 n0 (by omega) (by omega), Int.tmod_eq_emod_of_nonneg h0.1, wrap64 _ (by omega) (by omega)]; omega
  rw [hS]
  obtain ⟨m, hT0, hT1, hT6⟩ : ∃ m : Nat, IntKind.i64.wrap (1 + Int.tmod (IntKind.i64.wrap n2) (S : Int)) = (m : Int) ∧ 1 ≤ m ∧ m ≤ S := by
    refine ⟨(1 + n2 % S).toNat, ?_, ?_, ?_⟩
    · rw [wrap64 n2 (by omega) (by omega), Int.tmod_eq_emod_of_nonneg h2.1]
      have := Int.emod_nonneg n2 (show (S : Int) ≠ 0 by omega)
      have := Int.emod_lt_of_pos n2 (show 0 < (S : Int) by omega)
      rw [wrap64 _ (by omega) (by omega)]; omega
    · have := Int.emod_nonneg n2 (show (S : Int) ≠ 0 by omega)
      omega
    · have := Int.emod_lt_of_pos n2 (show 0 < (S : Int) by omega)
      have := Int.emod_nonneg n2 (show (S : Int) ≠ 0 by omega)
      omega
  rw [hT0]
  have eN : IntKind.i64.wrap (4 + IntKind.i64.wrap (41 * (S : Int))) = ((4 + 41 * S : Nat) : Int) := by
    rw [wrap64 (41 * (S : Int)) (by omega) (by omega), wrap64 _ (by omega) (by omega)]; omega
  have eU : IntKind.u64.wrap (IntKind.u64.wrap (S : Int) + 1) = ((S + 1 : Nat) : Int) := by rw [wrapU64, wrapU64]; omega
  have eT : IntKind.u64.wrap (m : Int) = (m : Int) := by rw [wrapU64]; omega
  have eT1 : IntKind.u64.wrap ((m : Int) - 1) = ((m - 1 : Nat) : Int) := by rw [wrapU64]; omega
  rw [eN, eU, eT, eT1]
  refine (rshown_spec w1).mono fun e w4 ⟨he4, hx4⟩ => ⟨_, he4, no rfl ?_⟩
  have hT := (T.nil w).quiet (hx1.trans hx4)
  have hsl : slotsN ((4 + 41 * S : Nat) : Int) = (S : Int) := by unfold slotsN; omega
  obtain ⟨N, hN, hN4⟩ : ∃ N : Nat, 4 + 41 * S = N ∧ N ≤ 4096 := ⟨_, rfl, by omega⟩
  rw [hN] at hsl ⊢
  refine new_u (n := N) hT (by omega) fun p w6 h6 => ⟨_, rfl, no rfl ?_⟩
  refine rformat_u (S := S) h6 (hold_new N) hsl hS1 hN4 fun a w7 hR h7 => ⟨_, rfl, no rfl ?_⟩
  refine ropen_u h7 hR fun r g cap lx w8 hlx h8 => ⟨_, _, _, _, _, rfl, no rfl (no rfl ?_)⟩
  generalize rowP 46 3 g ([] : List (Int × List RP)).length cap (rxL lx) :: (rxOwn lx ++ []) = X at h8
  refine rleft_u h8 List.mem_cons_self hR fun w9 h9 => ⟨_, rfl, bne_t fun hn => absurd (by simp) hn, bne_f fun _ => ?_⟩
  refine ⟨fun vs w' => ∃ (i : Nat) (a : AD) (recs : List (Int × List RP)), vs = [.int .i64 (i : Int)] ∧ i ≤ S ∧ recs.length = i ∧ RAt a N S 0 recs ∧ Dr p a [] w w' (blk r (rgC p S 0 (0 + 1 + recs.length)) 72 :: X), fun vs _ => match vs with | [.int _ i] => (S - i).toNat | _ => 0, ⟨0, a, [], rfl, by omega, rfl, hR, h9⟩, ?_⟩
  rintro vs w10 ⟨i, a1, recs, rfl, hi, hri, hR1, h10⟩
  refine ⟨_, rfl, dec_t fun hlt => ?_, dec_f fun hge => ?_⟩
  · have hlt : i < S := by omega
    obtain ⟨hP, hL⟩ := someL_ok hne (row := (i : Int)) (by omega) (by omega)
    refine rsome_u h10 rfl (fun w' Δ h => H1.ext h.chg.ext) h100 (by omega) fun g2 c2 w11 h11 => ⟨_, _, _, rfl, ?_⟩
    refine rapp_u (Dr.perm h11 (.swap _ _ _)) hR1 (by omega) rfl List.mem_cons_self hP hL fun a' w12 hR' h12 => ⟨_, _, rfl, no rfl ?_⟩
    have hl' : (recs ++ [((i : Int), someL l1)]).length = i + 1 := by rw [List.length_append, hri]; rfl
    refine rleft_u h12.drop2 List.mem_cons_self hR' fun w13 h13 => ⟨_, rfl, bne_t fun hn => absurd ?_ hn, bne_f fun _ => ⟨⟨i + 1, a', _, ?_, by omega, hl', hR', h13⟩, ?_⟩⟩
    · rw [hl', wrap64 ((S : Int) - 1) (by omega) (by omega), wrap64 _ (by omega) (by omega)]; omega
    · rw [wrap64 _ (by omega) (by omega)]; rfl
    · show ((S : Int) - IntKind.i64.wrap ((i : Int) + 1)).toNat < ((S : Int) - (i : Int)).toNat
      rw [wrap64 _ (by omega) (by omega)]; omega
  · have hfull : recs.length = S := by omega
    obtain ⟨hP, hL⟩ := someL_ok hne (row := 9) (by omega) (by omega)
    refine rsome_u h10 rfl (fun w' Δ h => H1.ext h.chg.ext) h100 (by omega) fun g2 c2 w14 h14 => ⟨_, _, _, rfl, ?_⟩
    refine rbusy_u h14 (List.mem_cons_of_mem _ List.mem_cons_self) hR1 hfull _ _ _ _ fun w15 h15 => ⟨_, _, rfl, ?_⟩
    refine rnext_u h15 (List.mem_cons_of_mem _ List.mem_cons_self) fun w16 h16 => ⟨_, rfl, ?_⟩
    refine ropen_u h16.dropX hR1 fun r2 g2 cap2 lx2 w17 hlx2 h17 => ⟨_, _, _, _, _, rfl, no rfl (no rfl ?_)⟩
    have h17 : Dr p a1 [] w w17 (blk r (rgC p S 0 (0 + 1 + recs.length)) 72 :: X) := Dr.back (h17.dropX.dropX)
    refine ⟨bne_t fun hn => absurd (by rw [hfull]; omega) hn, bne_f fun _ => ⟨bne_t fun hn => absurd (by omega) hn, bne_f fun _ => ⟨by omega, ?_⟩⟩⟩
    refine rtrim_bad_u h17 hR1 (by omega) (m := S + 1) rfl (by omega) (by omega) fun w18 h18 => ⟨_, rfl, no rfl ?_⟩
    refine rtrim_u h18 hR1 (m := m) rfl (by omega) (by omega) (by omega) fun a3 w19 hR3 h19 => ⟨_, rfl, no rfl ?_⟩
    have hld : (recs.drop (m - 0)).length = S - m := by rw [List.length_drop, hfull]; omega
    refine rleft_u h19 List.mem_cons_self hR3 fun w20 h20 => ⟨_, rfl, bne_t fun hn => absurd (by rw [hld]; omega) hn, bne_f fun _ => ?_⟩
    refine rtrim_bad_u h20 hR3 (by omega) (m := m - 1) rfl (by omega) (by omega) fun w21 h21 => ⟨_, rfl, no rfl ?_⟩
    refine rsome_u h21 rfl (fun w' Δ h => H1.ext h.chg.ext) h100 (by omega) fun g2 c2 w22 h22 => ⟨_, _, _, rfl, ?_⟩
    refine rapp_u (Dr.perm h22 (.swap _ _ _)) hR3 (by omega) rfl List.mem_cons_self hP hL fun a' w23 hR' h23 => ⟨_, _, rfl, yes rfl ⟨?_, h23.ext⟩⟩
    have : ((m + 1 + (recs.drop (m - 0)).length : Nat) : Int) = ((S + 1 : Nat) : Int) := by rw [hld]; omega
    rw [this]; simp
end Go.Proofs.Ytbecjmfcppginaa
end
section
/-! A law's row: bytes as numbers. -/
namespace Go.Proofs.Ytbecjmfcppginaa
open Go.ChangeShapes Go.WideShapes Go.ChangeAt Go.RowKit Go.Sh
theorem u8_of {a : Int} (h : (Lit.int .u8 a).wf = true) : 0 ≤ a ∧ a < 256 := by
  simp [Lit.wf, IntKind.min, IntKind.max, IntKind.bits, IntKind.signed] at h
  omega
end Go.Proofs.Ytbecjmfcppginaa
end
section
/-! law13: RingFinds. -/
namespace Go.Proofs.Ytbecjmfcppginaa
open Go.Sh Go.RowKit Go.Maps
set_option linter.unusedVariables false
set_option linter.unusedSimpArgs false
set_option maxRecDepth 20000
set_option maxHeartbeats 1000000
theorem rxL_get {l : List RcX} {j : Nat} {x : RcX} (h : l[j]? = some x) {m : Nat} {v : Value} (hv : (rxC x)[m]? = some v) : (rxL l)[j * 3 + m]? = some v := by
  have hm : m < 3 := (Array.getElem?_eq_some_iff.1 hv).1
  induction l generalizing j with
  | nil => simp at h
  | cons y l ih =>
    have e : rxL (y :: l) = (rxC y).toList ++ rxL l := rfl
    rw [e]
    cases j with
    | zero =>
      obtain rfl : y = x := by simpa using h
      rw [Nat.zero_mul, Nat.zero_add, List.getElem?_append_left (by show m < 3; exact hm)]
      simpa using hv
    | succ j =>
      rw [List.getElem?_append_right (by show 3 ≤ _; omega)]
      have : (j + 1) * 3 + m - (rxC y).toList.length = j * 3 + m := by show (j + 1) * 3 + m - 3 = _; omega
      rw [this]
      exact ih (by simpa using h)
theorem lx_at {lx : List RcX} {n j : Nat} {recs : List (Int × List RP)} (h : lx.map (·.1) = numb n recs) {y : Int × List RP} (hy : recs[j]? = some y) : ∃ x, lx[j]? = some x ∧ x.1 = (n + j, y.1, y.2) := by
  have e := congrArg (·[j]?) h
  simp only [List.getElem?_map, numb_get, hy, Option.map_some] at e
  cases hx : lx[j]? with
  | none => rw [hx] at e; cases e
  | some x => rw [hx] at e; exact ⟨x, rfl, Option.some.inj e⟩
theorem T.parts12 {F : List Nat} {w0 w : World} {Γ : List A} {g : Option Nat} {n cap : Nat} {l : List RP} (hT : T F w0 w Γ) (hm : rowP 96 3 g n cap (rpL l) ∈ Γ) : partsAt w (ptr g) l := by
  have hh := hT.says hm
  have hn : l.length = n := by have := rowP.len hh; rw [rpL_len] at this; omega
  refine ⟨fun hne => ?_, fun a ha j x hj m v hv => ?_⟩
  · have : 0 < l.length := List.length_pos_iff.2 hne
    obtain ⟨b, rfl⟩ := rowP.pos hh (by omega)
    exact ⟨_, rfl⟩
  · cases g with
    | none => cases ha
    | some b =>
      cases ha
      rw [addr_add, addr_add, Nat.zero_add]
      exact rowP.cell hh (rpL_get hj hv)
section
variable {p : Nat} {a : AD} {F : List Nat} {w0 w : World} {X : List A} {Φ : Ending → World → Prop}
theorem rtheirs_u (h : Dr p a F w0 w X) {g : Option Nat} {c n : Nat} {l : List RP} (hn : n = l.length) (hm : rowP 84 3 g l.length c (rpL l) ∈ X) (hl : l.length ≤ 1000000) (hk : ∀ g' cap w', Dr p a F w0 w' (rowP 96 3 g' l.length cap (rpL l) :: X) → Φ (.returned (.slice (ptr g') l.length cap)) w') :
    Calls Try.prog 22 #[.slice (ptr g) n c] w Φ := by
  subst hn
  refine Dr.intoT (Y := []) h fun Γ hT hback => ?_
  exact (theirs_spec hT (List.mem_append_left _ hm) hl).mono fun e w' ⟨g', cap, he, h'⟩ => by rw [he]; exact hk g' cap w' (hback w' [_] h')
/-- two rows of the same parts -/
theorem rsame_u (h : Dr p a F w0 w X) {g1 g2 : Option Nat} {c1 c2 n1 n2 : Nat} {l : List RP} (hn1 : n1 = l.length) (hn2 : n2 = l.length) (h1 : rowP 96 3 g1 l.length c1 (rpL l) ∈ X) (h2 : rowP 96 3 g2 l.length c2 (rpL l) ∈ X) (hl : l.length ≤ 1000000) (hk : ∀ w', Dr p a F w0 w' X → Φ (.returned (.bool true)) w') :
    Calls Try.prog 21 #[.agg #[.int .u64 0, .int .i64 0, .slice (ptr g1) n1 c1], .agg #[.int .u64 0, .int .i64 0, .slice (ptr g2) n2 c2]] w Φ := by
  subst hn1
  subst hn2
  refine (same12_spec (s1 := 0) (s2 := 0) (r1 := 0) (r2 := 0) (c1 := c1) (c2 := c2) (T.parts12 h.under h1) (T.parts12 h.under h2) hl).mono fun e w' ⟨he, hx⟩ => ?_
  rw [he, decide_eq_true ⟨rfl, rfl, rfl⟩]
  exact hk w' (h.quiet hx)
theorem rcrash_u (h : Dr p a [] w0 w X) (hF : a.Few 1000000) {keep : List UInt8} {q : Option Addr} {c n : Nat} (hn : n = keep.length) (hkl : keep.length ≤ 1000000) (hq : bytesAt w0 q keep) (hk : ∀ w', Dr p (a.crash keep) [] w0 w' X → Φ (.returned (.tuple #[])) w') :
    Calls Try.prog 20 #[.pointer (some ⟨p, 0, none⟩), .slice q n c] w Φ := by
  subst hn
  exact (crash_a h hF keep q c hkl fun w1 h1 => hq.ext h1.chg.ext).mono fun e w' ⟨he, hd⟩ => by rw [he]; exact hk w' hd
end
/-- the records of the rows from one to another one -/
def recsOf (l : List UInt8) (L : List RP) (t i : Nat) : List (Int × List RP) := ((l.take i).drop t).map fun b => ((b.toNat : Int), L)
theorem recsOf_len {l : List UInt8} {L : List RP} {t i : Nat} (hi : i ≤ l.length) : (recsOf l L t i).length = i - t := by
  unfold recsOf; rw [List.length_map, List.length_drop, List.length_take, Nat.min_eq_left hi]
theorem recsOf_next {l : List UInt8} {L : List RP} {t i : Nat} (ht : t ≤ i) (hi : i < l.length) : recsOf l L t (i + 1) = recsOf l L t i ++ [(((l[i]).toNat : Int), L)] := by
  unfold recsOf
  rw [List.take_add_one, List.getElem?_eq_getElem hi, List.drop_append_of_le_length (by rw [List.length_take]; omega), List.map_append]
  rfl
theorem recsOf_drop {l : List UInt8} {L : List RP} {t m i : Nat} (ht : t ≤ m) : (recsOf l L t i).drop (m - t) = recsOf l L m i := by
  unfold recsOf
  rw [← List.map_drop, List.drop_drop, show t + (m - t) = m by omega]
theorem recsOf_get {l : List UInt8} {L : List RP} {t j : Nat} (h : t + j < l.length) : (recsOf l L t l.length)[j]? = some (((l[t + j]).toNat : Int), L) := by
  unfold recsOf
  rw [List.take_length, List.getElem?_map, List.getElem?_drop, List.getElem?_eq_getElem h]; rfl
theorem recsOf_none (l : List UInt8) (L : List RP) (t : Nat) : recsOf l L t 0 = [] := by unfold recsOf; simp
theorem finds_law {p0 p1 p3 : Option Addr} {c0 c1 c3 : Nat} {n2 : Int} {l0 l3 : List UInt8} {l1 : List ByteArray} {w : World} (H0 : bytesAt w p0 l0) (H1 : strsAt w p1 l1) (h2 : 0 ≤ n2 ∧ n2 < 256) (H3 : bytesAt w p3 l3) : Ret Try.prog 6 #[.slice p0 l0.length c0, .slice p1 l1.length c1, .int .u8 n2, .slice p3 l3.length c3] w (.bool true) := by
  refine ret_of (revetmentlaw13_RingFinds_calls ?_)
  unfold revetmentlaw13_RingFinds
  refine (rheavy_spec H1).mono fun e w1 ⟨he, hx1⟩ => ⟨_, he, fun hh => rshown_end hx1, fun hh => ⟨beq_t fun _ => rshown_end hx1, beq_f fun hl1 => ⟨dec_t fun _ => rshown_end hx1, dec_f fun hl0 => ⟨dec_t fun _ => rshown_end hx1, dec_f fun hl3 => ?_⟩⟩⟩⟩
  obtain ⟨hl20, h100⟩ := heavyR_short hh
  have hl0 : l0.length ≤ 30 := by omega
  have hl3 : l3.length ≤ 50 := by omega
  have hne : l1 ≠ [] := fun e => hl1 (by rw [e]; rfl)
  refine (rshown_spec w1).mono fun e w5 ⟨he5, hx5⟩ => ⟨_, he5, no rfl ?_⟩
  have hT := (T.nil w).quiet (hx1.trans hx5)
  refine new_u (n := 209) hT (by omega) fun p w7 h7 => ⟨_, rfl, no rfl ?_⟩
  refine rformat_u (S := 5) h7 (hold_new 209) (by decide) (by decide) (by decide) fun a w8 hR h8 => ⟨_, rfl, no rfl ?_⟩
  refine ropen_u h8 hR fun r g cap lx w9 hlx h9 => ⟨_, _, _, _, _, rfl, no rfl (no rfl ?_)⟩
  generalize rowP 46 3 g ([] : List (Int × List RP)).length cap (rxL lx) :: (rxOwn lx ++ []) = X at h9
  refine ⟨fun vs w' => ∃ (t i : Nat) (a : AD), vs = [.int .i64 (t : Int), .int .i64 (i : Int)] ∧ i ≤ l0.length ∧ t ≤ i ∧ RAt a 209 5 t (recsOf l0 (someL l1) t i) ∧ Dr p a [] w w' (blk r (rgC p 5 t (t + 1 + (recsOf l0 (someL l1) t i).length)) 72 :: X), fun vs _ => match vs with | [_, .int _ i] => (l0.length - i).toNat | _ => 0, ⟨0, 0, a, rfl, by omega, by omega, by rw [recsOf_none]; exact hR, by rw [recsOf_none]; exact h9⟩, ?_⟩
  rintro vs w11 ⟨t, i, a1, rfl, hi, hti, hR1, h11⟩
  refine ⟨_, _, rfl, dec_t fun hlt => ?_, dec_f fun hge => ?_⟩
  · have hlt : i < l0.length := by omega
    obtain ⟨b0, hb0, hc0⟩ := H0.get1 hlt
    obtain ⟨e8, r0, r1⟩ := u8_row (l0[i])
    have hnx : ∀ t, t ≤ i → recsOf l0 (someL l1) t (i + 1) = recsOf l0 (someL l1) t i ++ [(((l0[i]).toNat : Int), someL l1)] := fun t ht => recsOf_next ht hlt
    generalize ((l0[i]).toNat : Int) = row at e8 r0 r1 hc0 hnx
    obtain ⟨hP, hL⟩ := someL_ok hne r0 r1
    refine Join.intro fun J hJ => ?_
    have body : ∀ (t : Nat) (a : AD) (w12 : World), t ≤ i → i - t < 5 → RAt a 209 5 t (recsOf l0 (someL l1) t i) → Dr p a [] w w12 (blk r (rgC p 5 t (t + 1 + (recsOf l0 (someL l1) t i).length)) 72 :: X) → J [.int .i64 (t : Int)] w12 := by
      intro t a w12 hti h5 hR h12
      refine hJ _ _ ⟨_, rfl, fun w' => Ext w w', (Dr.rdrew h12).ext, b0, hb0, by omega, by omega, row, fun w' hx => by rw [Int.toNat_natCast]; exact cell_ext hx hc0, ?_⟩
      rw [e8]
      have hrl := recsOf_len (L := someL l1) (t := t) (show i ≤ l0.length by omega)
      refine rsome_u (Dr.rdrew h12) rfl (fun w' Δ h => H1.ext h.chg.ext) h100 (by omega) fun g2 c2 w13 h13 => ⟨_, _, _, rfl, h13.ext, ?_⟩
      refine rapp_u (Dr.perm h13 (.swap _ _ _)) hR (by rw [hrl]; exact h5) rfl List.mem_cons_self hP hL fun a' w14 hR' h14 => ⟨_, _, rfl, h14.ext, no rfl ⟨bne_t fun hn => absurd ?_ hn, bne_f fun _ => ⟨⟨t, i + 1, a', ?_, by omega, by omega, by rw [hnx t hti]; exact hR', by rw [hnx t hti]; exact h14.drop2⟩, ?_⟩⟩⟩
      · rw [hrl, wrapU64, wrapU64]; omega
      · rw [wrap64 _ (by omega) (by omega)]; rfl
      · show ((l0.length : Int) - IntKind.i64.wrap ((i : Int) + 1)).toNat < ((l0.length : Int) - (i : Int)).toNat
        rw [wrap64 _ (by omega) (by omega)]; omega
    have hrl := recsOf_len (L := someL l1) (t := t) (show i ≤ l0.length by omega)
    have hle := hR1.le
    refine rleft_u h11 List.mem_cons_self hR1 fun w15 h15 => ⟨_, rfl, beq_t fun h0 => ?_, beq_f fun hn0 => body t a1 w15 hti (by omega) hR1 h15⟩
    have e5 : IntKind.i64.wrap (IntKind.i64.wrap ((t : Int) + 1) + Int.tmod (IntKind.i64.wrap n2) 5) = (t : Int) + 1 + n2 % 5 := by
      rw [wrap64 n2 (by omega) (by omega), Int.tmod_eq_emod_of_nonneg h2.1, wrap64 ((t : Int) + 1) (by omega) (by omega), wrap64 _ (by omega) (by omega)]
    rw [e5]
    obtain ⟨m, hm⟩ : ∃ m : Nat, (if (i : Int) < (t : Int) + 1 + n2 % 5 then (i : Int) else (t : Int) + 1 + n2 % 5) = (m : Int) := ⟨(if (i : Int) < (t : Int) + 1 + n2 % 5 then (i : Int) else (t : Int) + 1 + n2 % 5).toNat, by split <;> omega⟩
    have hm1 : t + 1 ≤ m ∧ m ≤ i := by split at hm <;> omega
    refine ⟨_, w15, min_run _ _ _ _ _ _, ?_⟩
    rw [hm]
    refine rtrim_u h15 hR1 (m := m) (by rw [wrapU64]; omega) (by omega) (by omega) (by omega) fun a2 w17 hR2 h17 => ⟨_, rfl, no rfl ?_⟩
    rw [recsOf_drop (by omega)] at hR2 h17
    exact body m a2 w17 hm1.2 (by omega) hR2 h17
  · have hie : i = l0.length := by omega
    subst hie
    have hrl := recsOf_len (L := someL l1) (t := t) (Nat.le_refl l0.length)
    have hle := hR1.le
    refine rcrash_u h11 (hR1.few _) rfl (by omega) H3 fun w18 h18 => ⟨rfl, ?_⟩
    have hR2 := hR1.crash l3
    refine ropen_u h18 hR2 fun r2 g2 cap2 lx2 w19 hlx2 h19 => ⟨_, _, _, _, _, rfl, no rfl (no rfl ?_)⟩
    refine ⟨bne_t fun hn => absurd (by rw [hrl, wrap64 _ (by omega) (by omega)]; omega) hn, bne_f fun _ => ?_⟩
    generalize a1.crash l3 = a2 at h19 hR2
    generalize hXX : rxOwn lx2 ++ blk r (rgC p 5 t (t + 1 + (recsOf l0 (someL l1) t l0.length).length)) 72 :: X = X2 at h19
    have hown : ∀ x ∈ lx2, rowP 84 3 x.2.1 x.1.2.2.length x.2.2 (rpL x.1.2.2) ∈ X2 := fun x hx => by rw [← hXX]; exact List.mem_append_left _ (List.mem_map.2 ⟨x, hx, rfl⟩)
    generalize hnn : (recsOf l0 (someL l1) t l0.length).length = n at h19 hrl
    rw [hrl] at hnn
    subst hrl
    refine ⟨fun vs w' => ∃ (j : Nat), vs = [.int .i64 (j : Int)] ∧ j ≤ l0.length - t ∧ Dr p a2 [] w w' (blk r2 (rgC p 5 t (t + 1 + (l0.length - t))) 72 :: rowP 46 3 g2 (l0.length - t) cap2 (rxL lx2) :: X2), fun vs _ => match vs with | [.int _ i] => (l0.length - i).toNat | _ => 0, ⟨0, rfl, by omega, h19⟩, ?_⟩
    rintro vs w20 ⟨j, rfl, hj, h20⟩
    refine ⟨_, rfl, dec_t fun hlt => ?_, dec_f fun hge => ?_⟩
    · have hlt : j < l0.length - t := by omega
      have htj : t + j < l0.length := by omega
      obtain ⟨x, hx, hx1⟩ := lx_at hlx2 (recsOf_get (L := someL l1) htj)
      have hxm : x ∈ lx2 := List.mem_of_getElem? hx
      have hownx := hown x hxm
      obtain ⟨b0, hb0, hc0⟩ := H0.get1 htj
      obtain ⟨e8, r0, r1⟩ := u8_row (l0[t + j])
      generalize ((l0[t + j]).toNat : Int) = row at e8 r0 r1 hc0 hx1
      obtain ⟨⟨sq, rw_, ps⟩, gx, cx⟩ := x
      have hx1 : (sq, rw_, ps) = (t + 1 + j, row, someL l1) := hx1
      cases hx1
      have hownx : rowP 84 3 gx (someL l1).length cx (rpL (someL l1)) ∈ X2 := hownx
      obtain ⟨b2, rfl⟩ := rowP.pos (h20.under.says (List.mem_cons_of_mem _ List.mem_cons_self)) (by omega)
      have cells : ∀ w', (∃ Δ, Dr p a2 [] w w' (Δ ++ blk r2 (rgC p 5 t (t + 1 + (l0.length - t))) 72 :: rowP 46 3 (some b2) (l0.length - t) cap2 (rxL lx2) :: X2)) → ∀ m v, (rxC ((t + 1 + j, row, someL l1), gx, cx))[m]? = some v → w'.cell? (Addr.add ⟨b2, 0, none⟩ (j * 3 + m)) = some v := fun w' ⟨Δ, hh⟩ m v hv => by
        rw [addr_add, Nat.zero_add]
        exact rowP.cell (hh.under.says (List.mem_append_right _ (List.mem_cons_of_mem _ List.mem_cons_self))) (rxL_get hx hv)
      have aa : ∀ m, Addr.add (Addr.add ⟨b2, 0, none⟩ (j * 3)) m = Addr.add ⟨b2, 0, none⟩ (j * 3 + m) := fun m => by rw [addr_add, addr_add, addr_add, Nat.add_assoc]
      have hext : ∀ w', (∃ Δ, Dr p a2 [] w w' (Δ ++ blk r2 (rgC p 5 t (t + 1 + (l0.length - t))) 72 :: rowP 46 3 (some b2) (l0.length - t) cap2 (rxL lx2) :: X2)) → Ext w w' := fun w' ⟨Δ, hh⟩ => hh.ext
      have etj : IntKind.i64.wrap ((t : Int) + (j : Int)) = ((t + j : Nat) : Int) := by rw [wrap64 _ (by omega) (by omega)]; omega
      rw [etj]
      have h20d := Dr.rdrew h20
      refine ⟨fun w' => ∃ Δ, Dr p a2 [] w w' (Δ ++ blk r2 (rgC p 5 t (t + 1 + (l0.length - t))) 72 :: rowP 46 3 (some b2) (l0.length - t) cap2 (rxL lx2) :: X2), ⟨[], h20d⟩, _, rfl, by omega, by omega, ((t + 1 + j : Nat) : Int), fun w' hD => by rw [Int.toNat_natCast]; exact cells w' hD 0 _ rfl, ?_⟩
      refine ⟨bne_t fun hn => absurd (by rw [wrapU64, wrapU64]; omega) hn, bne_f fun _ => ?_⟩
      refine ⟨_, rfl, by omega, by omega, row, fun w' hD => by rw [Int.toNat_natCast, aa]; exact cells w' hD 1 _ rfl, b0, hb0, by omega, by omega, row, fun w' hD => by rw [Int.toNat_natCast]; exact cell_ext (hext w' hD) hc0, ?_⟩
      rw [e8]
      refine ⟨bne_t fun hn => absurd rfl hn, bne_f fun _ => ?_⟩
      refine ⟨_, rfl, by omega, by omega, _, _, _, fun w' hD => by rw [Int.toNat_natCast, aa]; exact cells w' hD 2 _ rfl, ?_⟩
      have hs8 : (someL l1).length ≤ 8 := by rw [someL_len]; omega
      refine rtheirs_u (l := someL l1) h20d rfl (List.mem_cons_of_mem _ (List.mem_cons_of_mem _ hownx)) (by omega) fun g3 c3 w21 h21 => ⟨_, _, _, rfl, ⟨[_], h21⟩, ?_⟩
      refine rsome_u h21 rfl (fun w' Δ h => H1.ext h.chg.ext) h100 (by omega) fun g4 c4 w22 h22 => ⟨_, _, _, rfl, ⟨[_, _], h22⟩, ?_⟩
      refine rtheirs_u (l := someL l1) h22 rfl List.mem_cons_self (by omega) fun g5 c5 w23 h23 => ⟨_, _, _, rfl, ⟨[_, _, _], h23⟩, ?_⟩
      refine rsame_u (l := someL l1) h23 rfl rfl (List.mem_cons_of_mem _ (List.mem_cons_of_mem _ List.mem_cons_self)) List.mem_cons_self (by omega) fun w24 h24 => ⟨_, rfl, ⟨[_, _, _], h24⟩, no rfl ⟨⟨j + 1, ?_, by omega, h24.dropX.dropX.dropX⟩, ?_⟩⟩
      · rw [wrap64 _ (by omega) (by omega)]; rfl
      · show ((l0.length : Int) - IntKind.i64.wrap ((j : Int) + 1)).toNat < ((l0.length : Int) - (j : Int)).toNat
        rw [wrap64 _ (by omega) (by omega)]; omega
    · refine rnext_u h20 List.mem_cons_self fun w25 h25 => ⟨_, rfl, ?_, h25.ext⟩
      have : IntKind.u64.wrap (IntKind.u64.wrap (l0.length : Int) + 1) = ((t + 1 + (l0.length - t) : Nat) : Int) := by rw [wrapU64, wrapU64]; omega
      rw [this]; simp
end Go.Proofs.Ytbecjmfcppginaa
end
section
/-! law13: RingTorn. -/
namespace Go.Proofs.Ytbecjmfcppginaa
open Go.Sh Go.RowKit Go.Maps
set_option linter.unusedVariables false
set_option linter.unusedSimpArgs false
set_option maxRecDepth 20000
set_option maxHeartbeats 1000000
/-- the load of the next record is written -/
theorem RAt.torn {a : AD} {N S t : Nat} {recs : List (Int × List RP)} (h : RAt a N S t recs) (hlt : recs.length < S) {row : Int} {l : List RP} (hP : PlacedR row l) (hL : LoadedR l) :
    (∀ i, i ≤ l.length → (runS a (loadOps (ratN S (t + 1 + recs.length) : Int) (datas l) i)).1.On N) ∧
    (∀ i, i < l.length → (runS a (loadOps (ratN S (t + 1 + recs.length) : Int) (datas l) i)).1.put ((ratN S (t + 1 + recs.length) : Int) + 1 + (i : Int)) (strB ((datas l).getD i [])) = 0 ∧ (runS a (loadOps (ratN S (t + 1 + recs.length) : Int) (datas l) (i + 1))).1 = ((runS a (loadOps (ratN S (t + 1 + recs.length) : Int) (datas l) i)).1.write ((ratN S (t + 1 + recs.length) : Int) + 1 + (i : Int)) (strB ((datas l).getD i [])))) ∧
    (runS a (loadOps (ratN S (t + 1 + recs.length) : Int) (datas l) l.length)).1.flush.On N ∧
    ∀ keep, RAt (((runS a (loadOps (ratN S (t + 1 + recs.length) : Int) (datas l) l.length)).1.flush.write (ratN S (t + 1 + recs.length) : Int) (strB (headR (t + 1 + recs.length) row l (sumR l)))).crash keep) N S t recs ∨
      RAt (((runS a (loadOps (ratN S (t + 1 + recs.length) : Int) (datas l) l.length)).1.flush.write (ratN S (t + 1 + recs.length) : Int) (strB (headR (t + 1 + recs.length) row l (sumR l)))).crash keep) N S t (recs ++ [(row, l)]) := by
  obtain ⟨h1, h2, f, hf, hr⟩ := h
  have h40 := hP.2.2.2.1
  have hat := ratN_lt (n := t + 1 + recs.length) hr.one hr.fit
  have hok : ∀ i, i ≤ l.length → OpsOk N (loadOps (ratN S (t + 1 + recs.length) : Int) (datas l) i) := fun i hi => loadOps_ok ((loaded_datas l).1 hL) (by rw [datas_len]; exact hi) (by omega)
  have hw := fun i hi => runS_wet _ hf.wet (hok i hi)
  have hall := (hw l.length (Nat.le_refl _)).2.flush
  rw [loadOps_f] at hall
  refine ⟨fun i hi => (hw i hi).2.on, fun i hi => ?_, hall.on, fun keep => ?_⟩
  · obtain ⟨e0, hwi⟩ := hw i (by omega)
    have hsz : (strB ((datas l).getD i [])).size = 64 := by
      rw [strB_size, List.getD_eq_getElem?_getD, List.getElem?_eq_getElem (by rw [datas_len]; exact hi)]
      exact (loaded_datas l).1 hL _ (List.getElem_mem _)
    have hp := hwi.put (i := (ratN S (t + 1 + recs.length) : Int) + 1 + (i : Int)) (by omega) (by omega) hsz
    refine ⟨hp, ?_⟩
    have e : loadOps (ratN S (t + 1 + recs.length) : Int) (datas l) (i + 1) = loadOps (ratN S (t + 1 + recs.length) : Int) (datas l) i ++ [some ((ratN S (t + 1 + recs.length) : Int) + 1 + (i : Int), strB ((datas l).getD i []))] := rfl
    rw [e, runS_app _ _ e0]
    show (if _ then _ else _ : AD × Int).1 = _
    rw [if_neg (fun hn => hn hp)]; rfl
  · obtain ⟨q, hq⟩ := hall.crash (i := ratN S (t + 1 + recs.length)) (by omega) (s := strB (headR (t + 1 + recs.length) row l (sumR l))) (by rw [strB_size]; exact headR_len h40) keep
    cases q with
    | false => exact .inl ⟨h1, h2, _, hq.congr (fun j _ => by rw [if_neg (by simp)]), hr.loads hlt h40⟩
    | true =>
      refine .inr ⟨h1, h2, _, hq.congr (fun j _ => ?_), hr.append hlt hP hL⟩
      show _ = updF _ _ _ j
      unfold updF
      by_cases hj : j = ratN S (t + 1 + recs.length)
      · rw [if_pos ⟨hj, rfl⟩, if_pos hj]
      · rw [if_neg (fun hh => hj hh.1), if_neg hj]
section
variable {p : Nat} {a : AD} {F : List Nat} {w0 w : World} {X : List A} {Φ : Ending → World → Prop}
theorem rencode_u (h : Dr p a F w0 w X) {seq : Nat} {row : Int} {g : Option Nat} {c n : Nat} {l : List RP} (hn : n = l.length) (hs : seq < 2 ^ 64) (hm : rowP 84 3 g l.length c (rpL l) ∈ X) (hP : PlacedR row l) (hL : LoadedR l)
    (hk : ∀ g' cap w', Dr p a F w0 w' (rowP 9 1 g' l.length cap (strV (datas l)) :: X) → Φ (.returned (.tuple #[.string (strB (headR seq row l (sumR l))), .slice (ptr g') l.length cap, .int .i64 0])) w') :
    Calls Try.prog 17 #[.agg #[.int .u64 (seq : Int), .int .i64 row, .slice (ptr g) n c]] w Φ := by
  subst hn
  refine Dr.intoT (Y := []) h fun Γ hT hback => ?_
  exact (rencode_good hT hs (List.mem_append_left _ hm) hP hL).mono fun e w' ⟨g', cap, he, h'⟩ => by rw [he]; exact hk g' cap w' (hback w' [_] h')
end
theorem torn_law {p0 p1 p2 p3 : Option Addr} {c0 c1 c2 c3 : Nat} {l0 l3 : List UInt8} {l1 l2 : List ByteArray} {w : World} (H0 : bytesAt w p0 l0) (H1 : strsAt w p1 l1) (H2 : strsAt w p2 l2) (H3 : bytesAt w p3 l3) : Ret Try.prog 4 #[.slice p0 l0.length c0, .slice p1 l1.length c1, .slice p2 l2.length c2, .slice p3 l3.length c3] w (.bool true) := by
  refine ret_of (revetmentlaw13_RingTorn_calls ?_)
  unfold revetmentlaw13_RingTorn
  refine (rheavy_spec H1).mono fun e w1 ⟨he, hx1⟩ => ⟨_, he, fun hh => rshown_end hx1, fun hh => ?_⟩
  refine (rheavy_spec (H2.ext hx1)).mono fun e w3 ⟨he3, hx3⟩ => ⟨_, he3, fun hh2 => rshown_end (hx1.trans hx3), fun hh2 => ⟨beq_t fun _ => rshown_end (hx1.trans hx3), beq_f fun hl1 => ⟨beq_t fun _ => rshown_end (hx1.trans hx3), beq_f fun hl2 => ⟨dec_t fun _ => rshown_end (hx1.trans hx3), dec_f fun hl0 => ⟨dec_t fun _ => rshown_end (hx1.trans hx3), dec_f fun hl3 => ?_⟩⟩⟩⟩⟩
  obtain ⟨hl20, h100⟩ := heavyR_short hh
  obtain ⟨hm20, h200⟩ := heavyR_short hh2
  have hl0 : l0.length ≤ 4 := by omega
  have hl3 : l3.length ≤ 50 := by omega
  have hne : l1 ≠ [] := fun e => hl1 (by rw [e]; rfl)
  have hne2 : l2 ≠ [] := fun e => hl2 (by rw [e]; rfl)
  refine (rshown_spec w3).mono fun e w5 ⟨he5, hx5⟩ => ⟨_, he5, no rfl ?_⟩
  have hT := (T.nil w).quiet ((hx1.trans hx3).trans hx5)
  refine new_u (n := 209) hT (by omega) fun p w7 h7 => ⟨_, rfl, no rfl ?_⟩
  refine rformat_u (S := 5) h7 (hold_new 209) (by decide) (by decide) (by decide) fun a w8 hR h8 => ⟨_, rfl, no rfl ?_⟩
  refine ropen_u h8 hR fun r g cap lx w9 hlx h9 => ⟨_, _, _, _, _, rfl, no rfl (no rfl ?_)⟩
  generalize rowP 46 3 g ([] : List (Int × List RP)).length cap (rxL lx) :: (rxOwn lx ++ []) = X at h9
  refine ⟨fun vs w' => ∃ (i : Nat) (a : AD) (recs : List (Int × List RP)), vs = [.int .i64 (i : Int)] ∧ i ≤ l0.length ∧ recs.length = i ∧ RAt a 209 5 0 recs ∧ Dr p a [] w w' (blk r (rgC p 5 0 (0 + 1 + recs.length)) 72 :: X), fun vs _ => match vs with | [.int _ i] => (l0.length - i).toNat | _ => 0, ⟨0, a, [], rfl, by omega, rfl, hR, h9⟩, ?_⟩
  rintro vs w10 ⟨i, a1, recs, rfl, hi, hri, hR1, h10⟩
  refine ⟨_, rfl, dec_t fun hlt => ?_, dec_f fun hge => ?_⟩
  · have hlt : i < l0.length := by omega
    obtain ⟨b0, hb0, hc0⟩ := H0.get1 hlt
    obtain ⟨e8, r0, r1⟩ := u8_row (l0[i])
    generalize ((l0[i]).toNat : Int) = row at e8 r0 r1 hc0
    refine ⟨fun w' => Ext w w', (Dr.rdrew h10).ext, b0, hb0, by omega, by omega, row, fun w' hx => by rw [Int.toNat_natCast]; exact cell_ext hx hc0, ?_⟩
    rw [e8]
    obtain ⟨hP, hL⟩ := someL_ok hne r0 r1
    refine rsome_u (Dr.rdrew h10) rfl (fun w' Δ h => H1.ext h.chg.ext) h100 (by omega) fun g2 c2 w11 h11 => ⟨_, _, _, rfl, h11.ext, ?_⟩
    refine rapp_u (Dr.perm h11 (.swap _ _ _)) hR1 (by omega) rfl List.mem_cons_self hP hL fun a' w12 hR' h12 => ⟨_, _, rfl, h12.ext, no rfl ⟨⟨i + 1, a', _, ?_, by omega, ?_, hR', h12.drop2⟩, ?_⟩⟩
    · rw [wrap64 _ (by omega) (by omega)]; rfl
    · rw [List.length_append, hri]; rfl
    · show ((l0.length : Int) - IntKind.i64.wrap ((i : Int) + 1)).toNat < ((l0.length : Int) - (i : Int)).toNat
      rw [wrap64 _ (by omega) (by omega)]; omega
  · have hrn : recs.length = l0.length := by omega
    obtain ⟨hP, hL⟩ := someL_ok hne2 (row := 9) (by omega) (by omega)
    have hs8 : (someL l2).length ≤ 8 := by rw [someL_len]; omega
    obtain ⟨o1, o2, o3, o4⟩ := hR1.torn (by omega) hP hL
    have o4 := o4 l3
    have hN0 : IntKind.u64.wrap (IntKind.u64.wrap (l0.length : Int) + 1) = ((0 + 1 + recs.length : Nat) : Int) := by rw [wrapU64, wrapU64]; omega
    rw [hN0]
    have hsq : 0 + 1 + recs.length < 2 ^ 64 := by omega
    obtain ⟨at_, hat, hat1⟩ : ∃ x : Int, (ratN 5 (0 + 1 + recs.length) : Int) = x ∧ 0 ≤ x ∧ x ≤ 168 := ⟨_, rfl, by omega, by unfold ratN; omega⟩
    have hmod : IntKind.i64.wrap (4 + IntKind.i64.wrap (41 * IntKind.i64.wrap (Int.tmod ((0 + 1 + recs.length : Nat) : Int) 5))) = at_ := by
      rw [← hat, Int.tmod_eq_emod_of_nonneg (by omega), wrap64 (((0 + 1 + recs.length : Nat) : Int) % 5) (by omega) (by omega), wrap64 (41 * (((0 + 1 + recs.length : Nat) : Int) % 5)) (by omega) (by omega), wrap64 _ (by omega) (by omega)]
      unfold ratN; omega
    rw [hmod]
    rw [hat] at o1 o2 o3 o4
    generalize 0 + 1 + recs.length = seq at hsq o4 h10
    refine rsome_u h10 rfl (fun w' Δ h => H2.ext h.chg.ext) h200 (by omega) fun g2 c2 w17 h17 => ⟨_, _, _, rfl, ?_⟩
    have hF0 := hR1.few 0
    generalize hl : someL l2 = l at h17 hP hL hs8 o1 o2 o3 o4
    refine rencode_u (l := l) h17 rfl hsq List.mem_cons_self hP hL fun g3 c3 w18 h18 => ⟨_, _, _, _, _, rfl, ?_⟩
    generalize rowP 84 3 g2 l.length c2 (rpL l) :: blk r (rgC p 5 0 seq) 72 :: X = Y at h18
    refine ⟨fun vs w' => ∃ (i : Nat), vs = [.int .i64 (i : Int)] ∧ i ≤ l.length ∧ (runS a1 (loadOps at_ (datas l) i)).1.Few i ∧ Dr p (runS a1 (loadOps at_ (datas l) i)).1 [] w w' (rowP 9 1 g3 l.length c3 (strV (datas l)) :: Y), fun vs _ => match vs with | [.int _ i] => (l.length - i).toNat | _ => 0, ⟨0, rfl, by omega, hF0, h18⟩, ?_⟩
    rintro vs w19 ⟨j, rfl, hj, hFj, h19⟩
    refine ⟨_, rfl, dec_t fun hlt => ?_, dec_f fun hge => ?_⟩
    · have hlt : j < l.length := by omega
      obtain ⟨bs, hbs, hcs⟩ := T.row1 (i := j) (v := .string (strB ((datas l).getD j []))) h19.under List.mem_cons_self (by
        unfold strV; rw [List.getElem?_map, List.getD_eq_getElem?_getD, List.getElem?_eq_getElem (by rw [datas_len]; exact hlt)]; rfl)
      obtain ⟨q1, q2⟩ := o2 j hlt
      have eaj : IntKind.i64.wrap (IntKind.i64.wrap (at_ + 1) + (j : Int)) = at_ + 1 + (j : Int) := by rw [wrap64 (at_ + 1) (by omega) (by omega), wrap64 _ (by omega) (by omega)]
      rw [eaj]
      refine ⟨⟨bs, 0, none⟩, by rw [hbs]; rfl, by omega, by omega, _, by rw [Int.toNat_natCast]; exact hcs, ?_⟩
      refine write_u h19 (hFj.mono (by omega)) q1 fun w20 h20 => ⟨_, rfl, no rfl ⟨⟨j + 1, ?_, by omega, ?_, ?_⟩, ?_⟩⟩
      · rw [wrap64 _ (by omega) (by omega)]; rfl
      · rw [q2]; exact hFj.write _ _
      · rw [q2]; exact h20
      · show ((l.length : Int) - IntKind.i64.wrap ((j : Int) + 1)).toNat < ((l.length : Int) - (j : Int)).toNat
        rw [wrap64 _ (by omega) (by omega)]; omega
    · have hje : j = l.length := by omega
      subst hje
      have q1 := o1 _ (Nat.le_refl _)
      generalize (runS a1 (loadOps at_ (datas l) l.length)).1 = a2 at hFj h19 o3 o4 q1
      refine no rfl (flush_u h19 (hFj.mono (by omega)) q1.flush1 fun w21 h21 => ⟨_, rfl, no rfl ?_⟩)
      have hF2 := hFj.flush
      generalize a2.flush = a3 at hF2 h21 o3 o4
      have hhz : (strB (headR seq 9 l (sumR l))).size = 64 := by rw [strB_size]; exact headR_len (by omega)
      generalize strB (headR seq 9 l (sumR l)) = hd at hhz o4
      refine write_u h21 (hF2.mono (by omega)) (o3.put (i := at_) ⟨hat1.1, by omega⟩ hhz) fun w22 h22 => ⟨_, rfl, no rfl ?_⟩
      refine rcrash_u h22 ((hF2.write _ _).mono (by omega)) rfl (by omega) H3 fun w23 h23 => ⟨rfl, ?_⟩
      rcases o4 with o4 | o4
      · refine ropen_u h23 o4 fun r2 g4 c4 lx2 w24 hlx2 h24 => ⟨_, _, _, _, _, rfl, no rfl ?_⟩
        refine ⟨dec_t fun hn => absurd hn (by omega), dec_f fun _ => ⟨dec_t fun hn => absurd hn (by rw [wrap64 _ (by omega) (by omega)]; omega), dec_f fun _ => ⟨beq_t fun _ => ⟨rfl, h24.ext⟩, beq_f fun hn => absurd (by omega) hn⟩⟩⟩
      · have hl1 : (recs ++ [((9 : Int), l)]).length = l0.length + 1 := by rw [List.length_append, hrn]; rfl
        refine ropen_u h23 o4 fun r2 g4 c4 lx2 w24 hlx2 h24 => ⟨_, _, _, _, _, rfl, no rfl ?_⟩
        rw [hl1] at h24 ⊢
        refine ⟨dec_t fun hn => absurd hn (by omega), dec_f fun _ => ⟨dec_t fun hn => absurd hn (by rw [wrap64 _ (by omega) (by omega)]; omega), dec_f fun _ => ⟨beq_t fun hn => absurd hn (by omega), beq_f fun _ => ?_⟩⟩⟩
        obtain ⟨x, hx, hx1⟩ := lx_at (j := l0.length) (y := (9, l)) hlx2 (by rw [List.getElem?_append_right (by omega), hrn, Nat.sub_self]; rfl)
        have hxm : x ∈ lx2 := List.mem_of_getElem? hx
        have hownx : rowP 84 3 x.2.1 x.1.2.2.length x.2.2 (rpL x.1.2.2) ∈ rxOwn lx2 := List.mem_map.2 ⟨x, hxm, rfl⟩
        obtain ⟨⟨sq, rw_, ps⟩, gx, cx⟩ := x
        have hx1 : (sq, rw_, ps) = (0 + 1 + l0.length, (9 : Int), l) := hx1
        cases hx1
        have hownx : rowP 84 3 gx l.length cx (rpL l) ∈ rxOwn lx2 := hownx
        obtain ⟨b2, rfl⟩ := rowP.pos (h24.under.says (List.mem_cons_of_mem _ List.mem_cons_self)) (by omega)
        have cells : ∀ m v, (rxC ((0 + 1 + l0.length, (9 : Int), l), gx, cx))[m]? = some v → w24.cell? (Addr.add ⟨b2, 0, none⟩ (l0.length * 3 + m)) = some v := fun m v hv => by
          rw [addr_add, Nat.zero_add]
          exact rowP.cell (h24.under.says (List.mem_cons_of_mem _ List.mem_cons_self)) (rxL_get hx hv)
        have aa : ∀ m, Addr.add (Addr.add ⟨b2, 0, none⟩ (l0.length * 3)) m = Addr.add ⟨b2, 0, none⟩ (l0.length * 3 + m) := fun m => by rw [addr_add, addr_add, addr_add, Nat.add_assoc]
        refine ⟨_, rfl, by omega, by omega, 9, by rw [Int.toNat_natCast, aa]; exact cells 1 _ rfl, yes rfl ?_⟩
        refine ⟨_, rfl, by omega, by omega, _, _, _, by rw [Int.toNat_natCast, aa]; exact cells 2 _ rfl, ?_⟩
        refine rtheirs_u (l := l) h24 rfl (List.mem_cons_of_mem _ (List.mem_cons_of_mem _ (List.mem_append_left _ hownx))) (by omega) fun g5 c5 w25 h25 => ⟨_, _, _, rfl, ?_⟩
        refine rsome_u h25 rfl (fun w' Δ h => H2.ext h.chg.ext) h200 (by omega) fun g6 c6 w26 h26 => ⟨_, _, _, rfl, ?_⟩
        rw [hl] at h26 ⊢
        refine rtheirs_u (l := l) h26 rfl List.mem_cons_self (by omega) fun g7 c7 w27 h27 => ⟨_, _, _, rfl, ?_⟩
        exact rsame_u (l := l) h27 rfl rfl (List.mem_cons_of_mem _ (List.mem_cons_of_mem _ List.mem_cons_self)) List.mem_cons_self (by omega) fun w28 h28 => ⟨_, rfl, rfl, h28.ext⟩
end Go.Proofs.Ytbecjmfcppginaa
end
