import Derived.Test.YtdfkifgkccnaiaaGreatDoorSy1
import Derived.Test.YtdfkifgkccnaiaaGreatDoorRep
/-! slices.Contains, Clone, Values, Collect, Sorted (of at most two); strings.Repeat of the byte 0. -/
namespace Go.Proofs.YtdfkifgkccnaiaaGreatDoor
open Go.Sh Go.RowKit
set_option linter.unusedVariables false
set_option linter.unusedSimpArgs false
set_option maxRecDepth 20000
set_option maxHeartbeats 1000000
def intsI (l : List Int) : List Value := l.map fun x => .int .i64 x
theorem intsI_len (l : List Int) : (intsI l).length = l.length := List.length_map ..
/-- numbers that lie in a row -/
def intsL (w : World) (p : Option Addr) (l : List Int) : Prop := (l ≠ [] → ∃ a, p = some a) ∧ ∀ a, p = some a → ∀ j x, l[j]? = some x → w.cell? (a.add j) = some (.int .i64 x)
theorem intsL.ext {w w' : World} {p : Option Addr} {l : List Int} (h : intsL w p l) (hx : Ext w w') : intsL w' p l := ⟨h.1, fun a ha j x hj => cell_ext hx (h.2 a ha j x hj)⟩
theorem intsL.get {w : World} {p : Option Addr} {l : List Int} (h : intsL w p l) {n : Nat} (h1 : n < l.length) : ∃ a, p = some a ∧ w.cell? (a.add (n * 1)) = some (.int .i64 (l.getD n 0)) := by
  obtain ⟨a, ha⟩ := h.1 (by intro e; subst e; simp at h1)
  refine ⟨a, ha, ?_⟩
  rw [Nat.mul_one]
  exact h.2 a ha n _ (by simp [h1])
theorem T.ints {F : List Nat} {w0 w : World} {Γ : List A} {g : Option Nat} {n cap : Nat} {l : List Int} (hT : T F w0 w Γ) (hm : rowP 3 1 g n cap (intsI l) ∈ Γ) : intsL w (ptr g) l ∧ l.length = n := by
  have hs := hT.says hm
  have hl := rowP.len hs
  rw [intsI_len, Nat.mul_one] at hl
  refine ⟨⟨fun hn => ?_, fun a ha j x hj => ?_⟩, hl⟩
  · obtain ⟨b, rfl⟩ := rowP.pos hs (by
      cases l with
      | nil => exact absurd rfl hn
      | cons x l => simp at hl; omega)
    exact ⟨_, rfl⟩
  · cases g with
    | none => cases ha
    | some b =>
      cases ha
      rw [addr_add, Nat.zero_add]
      refine rowP.cell hs ?_
      simp [intsI, hj]
theorem index_spec {l : List Int} (hl : l.length ≤ 1000000) (x : Int) {p : Option Addr} {c : Nat} {w : World} (h : intsL w p l) : Calls Tryz.prog 67 #[.slice p l.length c, .int .i64 x] w fun e w' => ∃ n : Int, e = .returned (.int .i64 n) ∧ (n ≥ 0 ↔ x ∈ l) ∧ Ext w w' := by
  refine (slices_Index_int_int_calls (R := fun v w' => ∃ n : Int, v = .int .i64 n ∧ (n ≥ 0 ↔ x ∈ l) ∧ Ext w w') ?_).mono fun e w' ⟨v, he, n, hv, h⟩ => ⟨n, by rw [he, hv], h⟩
  unfold slices_Index_int_int
  refine ⟨fun vs w' => w' = w ∧ ∃ i : Nat, vs = [.int .i64 (i : Int)] ∧ i ≤ l.length ∧ x ∉ l.take i, fun vs _ => match vs with | [.int _ i] => (l.length - i).toNat | _ => 0, ⟨rfl, 0, rfl, by omega, by simp⟩, ?_⟩
  rintro vs w1 ⟨rfl, i, rfl, hi, hni⟩
  refine ⟨_, rfl, dec_t fun hlt => ?_, dec_f fun hge => ?_⟩
  · have hlt : i < l.length := by omega
    obtain ⟨a, ha, hc⟩ := h.get hlt
    have hg : l.getD i 0 = l[i] := by simp [List.getD, hlt]
    refine ⟨a, ha, by omega, by omega, _, by rw [Int.toNat_natCast]; exact hc, beq_t fun hx => ⟨_, rfl, ⟨fun _ => ?_, fun _ => by omega⟩, Ext.refl _⟩, beq_f fun hx => ⟨⟨rfl, i + 1, ?_, by omega, ?_⟩, ?_⟩⟩
    · rw [hx, hg]; exact List.getElem_mem hlt
    · rw [wrap64 _ (by omega) (by omega)]; rfl
    · rw [List.take_add_one, List.getElem?_eq_getElem hlt]
      intro hm
      rcases List.mem_append.1 hm with hm | hm
      · exact hni hm
      · rw [hg] at hx
        exact hx (by simpa using hm)
    · show ((l.length : Int) - IntKind.i64.wrap ((i : Int) + 1)).toNat < ((l.length : Int) - (i : Int)).toNat
      rw [wrap64 _ (by omega) (by omega)]; omega
  · have hie : i = l.length := by omega
    subst hie
    rw [List.take_length] at hni
    exact ⟨_, rfl, ⟨fun h => absurd h (by decide), fun h => absurd h hni⟩, Ext.refl _⟩
theorem contains_spec {l : List Int} (hl : l.length ≤ 1000000) (x : Int) {p : Option Addr} {c : Nat} {w : World} (h : intsL w p l) : Ret Tryz.prog 41 #[.slice p l.length c, .int .i64 x] w (.bool (decide (x ∈ l))) := by
  refine ret_of (slices_Contains_int_int_calls ?_)
  unfold slices_Contains_int_int
  refine (index_spec hl x h).mono fun e w1 ⟨n, he, hn, hx⟩ => ⟨n, he, ?_, hx⟩
  congr 1
  exact decide_eq_decide.2 hn
theorem clone_spec {L : List (List UInt8)} (hl : L.length ≤ 1000000) {p : Option Addr} {c : Nat} {w0 w : World} {Γ : List A} (hT : T [] w0 w Γ) (h : strsL w0 p L) :
    Calls Tryz.prog 20 #[.slice p L.length c] w fun e w' => ∃ g cap, e = .returned (.slice (ptr g) L.length cap) ∧ T [] w0 w' (rowP 9 1 g L.length cap (L.map fun x => .string (strB x)) :: Γ) := by
  refine (slices_Clone_string_string_calls (R := fun v w' => ∃ g cap, v = .slice (ptr g) L.length cap ∧ T [] w0 w' (rowP 9 1 g L.length cap (L.map fun x => .string (strB x)) :: Γ)) ?_).mono fun e w' ⟨v, he, g, cap, hv, h⟩ => ⟨g, cap, by rw [he, hv], h⟩
  unfold slices_Clone_string_string
  refine ⟨fun hp => ?_, fun hp => ?_⟩
  · have hp : p = none := by simpa using hp
    have : L = [] := by
      cases L with
      | nil => rfl
      | cons x L => obtain ⟨a, ha⟩ := h.1 (by simp); rw [hp] at ha; cases ha
    subst this
    exact ⟨none, 0, rfl, T.nilRow hT _ _⟩
  · obtain ⟨a, rfl⟩ : ∃ a, p = some a := by
      cases p with
      | none => cases hp
      | some a => exact ⟨a, rfl⟩
    refine Alloc.t hT fun k5 w1 h1 => ?_
    have h1 : T [] w0 w1 (rowP 9 1 (some k5) 0 0 [] :: Γ) := blk_row h1 rfl rfl (by decide)
    obtain ⟨g', cap', w2, hr, h2⟩ := append_t (P := Tryz.prog) (t := 22) (ty := 22) (e := 9) (i := Tryz.t9) (z := .string (ByteArray.mk #[])) (size := 1) #[false, false] (by kernel_rfl) (by kernel_rfl) (by kernel_rfl) (by kernel_rfl) (by rfl)
      h1 .head (a := a) (m := L.length) (c := c) (news := L.map fun x => .string (strB x)) (by simp) (fun j u hu => by
        refine (h.ext h1.chg.ext).2 a rfl j (strB (L.getD j [])) ?_ |>.trans ?_
        · rw [List.getElem?_map] at hu ⊢
          cases hq : L[j]? with
          | none => rw [hq] at hu; cases hu
          | some x => simp [List.getD, hq]
        · rw [List.getElem?_map] at hu
          cases hq : L[j]? with
          | none => rw [hq] at hu; cases hu
          | some x => rw [hq] at hu; cases hu; simp [List.getD, hq]) (fun u hu => by
        obtain ⟨x, _, rfl⟩ := List.mem_map.1 hu
        rfl) (by simp only [maxLen]; omega) (by
        have : (Tryz.t9).bytes = 16 := by kernel_rfl
        rw [this]; omega)
    rw [Nat.zero_add, List.nil_append] at h2
    rw [Nat.zero_add] at hr
    exact ⟨_, _, _, w2, hr, g', cap', rfl, h2⟩
theorem values_spec {l : List Int} {p : Option Addr} {c : Nat} {w0 w : World} {Γ : List A} (hT : T [] w0 w Γ) :
    Calls Tryz.prog 40 #[.slice p l.length c] w fun e w' => ∃ k, e = .returned (.func (.func 66) #[] #[.pointer (some ⟨k, 0, none⟩)]) ∧ T [] w0 w' (blk k #[.slice p l.length c] 44 :: Γ) := by
  refine (slices_Values_int_int_calls (R := fun v w' => ∃ k, v = .func (.func 66) #[] #[.pointer (some ⟨k, 0, none⟩)] ∧ T [] w0 w' (blk k #[.slice p l.length c] 44 :: Γ)) ?_).mono fun e w' ⟨v, he, k, hv, h⟩ => ⟨k, by rw [he, hv], h⟩
  unfold slices_Values_int_int
  exact Alloc.t hT fun k w1 h1 => ⟨k, rfl, h1⟩
theorem values1_spec {l : List Int} (hl : l.length ≤ 1000000) {p : Option Addr} {c : Nat} {k1 : Addr} {yv : Value} {J : Nat → World → Prop}
    (hrd : ∀ m W, J m W → W.cell? k1 = some (.slice p l.length c) ∧ intsL W p l)
    (hcall : ∀ m W, m < l.length → J m W → CallF Tryz.prog yv [.int .i64 (l.getD m 0)] W fun e w' => e = .returned (.bool true) ∧ J (m + 1) w') (W : World) (h0 : J 0 W) :
    Calls Tryz.prog 66 #[yv, .pointer (some k1)] W fun e w' => (∃ v, e = .returned v) ∧ J l.length w' := by
  refine (slices_Values_int_int_1_calls (R := fun v w' => J l.length w') ?_).mono fun e w' ⟨v, he, h⟩ => ⟨⟨v, he⟩, h⟩
  unfold slices_Values_int_int_1
  refine ⟨_, _, _, (hrd 0 W h0).1, ?_⟩
  refine ⟨fun vs w' => ∃ i : Nat, vs = [.int .i64 (i : Int)] ∧ i ≤ l.length ∧ J i w', fun vs _ => match vs with | [.int _ i] => (l.length - i).toNat | _ => 0, ⟨0, rfl, by omega, h0⟩, ?_⟩
  rintro vs w1 ⟨i, rfl, hi, hJ⟩
  refine ⟨_, rfl, dec_t fun hlt => ?_, dec_f fun hge => ?_⟩
  · have hlt : i < l.length := by omega
    obtain ⟨a, ha, hc⟩ := (hrd _ _ hJ).2.get hlt
    refine ⟨a, ha, by omega, by omega, _, by rw [Int.toNat_natCast]; exact hc, ?_⟩
    refine CallF.mono (hcall i w1 hlt hJ) fun e w2 ⟨he, hJ2⟩ => ⟨true, he, no rfl ⟨⟨i + 1, ?_, by omega, hJ2⟩, ?_⟩⟩
    · rw [wrap64 _ (by omega) (by omega)]; rfl
    · show ((l.length : Int) - IntKind.i64.wrap ((i : Int) + 1)).toNat < ((l.length : Int) - (i : Int)).toNat
      rw [wrap64 _ (by omega) (by omega)]; omega
  · have hie : i = l.length := by omega
    subst hie
    exact hJ
theorem intsI_take (l : List Int) {m : Nat} (h : m < l.length) : intsI (l.take m) ++ [.int .i64 (l.getD m 0)] = intsI (l.take (m + 1)) := by
  unfold intsI
  rw [List.take_add_one, List.getElem?_eq_getElem h, List.map_append, show l.getD m 0 = l[m] by simp [List.getD, h]]
  rfl
theorem appendSeq_spec {l : List Int} (hl : l.length ≤ 100000) {p : Option Addr} {c : Nat} {k : Nat} {w0 w : World} {Γ : List A} (hr : ∀ w', Ext w0 w' → intsL w' p l) (hT : T [] w0 w (blk k #[.slice p l.length c] 44 :: Γ)) :
    Calls Tryz.prog 85 #[.slice none 0 0, .func (.func 66) #[] #[.pointer (some ⟨k, 0, none⟩)]] w fun e w' => ∃ g cap, e = .returned (.slice (ptr g) l.length cap) ∧ T [] w0 w' (rowP 3 1 g l.length cap (intsI l) :: Γ) := by
  refine (slices_AppendSeq_int_int_calls (R := fun v w' => ∃ g cap, v = .slice (ptr g) l.length cap ∧ T [] w0 w' (rowP 3 1 g l.length cap (intsI l) :: Γ)) ?_).mono fun e w' ⟨v, he, g, cap, hv, h⟩ => ⟨g, cap, by rw [he, hv], h⟩
  unfold slices_AppendSeq_int_int
  refine Alloc.t hT fun k2 w1 h1 => ?_
  have h1 : T [] w0 w1 (rowP 3 1 none 0 0 (intsI (l.take 0)) :: blk k2 #[.slice (ptr none) 0 0] 44 :: blk k #[.slice p l.length c] 44 :: Γ) := T.nilRow h1 _ _
  refine RangeP.t (by kernel_rfl) h1 (N := l.length) (arg := fun m => [.int .i64 (l.getD m 0)])
    (Inv := fun m Γm => ∃ g cap, Γm = rowP 3 1 g m cap (intsI (l.take m)) :: blk k2 #[.slice (ptr g) m cap] 44 :: blk k #[.slice p l.length c] 44 :: Γ)
    ⟨none, 0, rfl⟩ ?_ ?_ ?_
  · intro yv J hJ hc W hW
    refine values1_spec (by omega) (p := p) (c := c) (fun m W hm => ?_) hc W hW
    obtain ⟨Γk, x, y, ⟨g, cap, rfl⟩, h⟩ := hJ m W hm
    exact ⟨h.ld (b := k) (by repeat (first | exact List.Mem.head _ | refine List.Mem.tail _ ?_)) rfl, hr W h.chg.ext⟩
  · rintro obf l' d m Γk W Φ hm ⟨g, cap, rfl⟩ hW hΦ
    refine ⟨_, rfl, ?_⟩
    refine RoundP.t hW (G := fun Γ' => ∃ Γ'', Γ' = ob d (.deferred (some [])) :: Γ'' ∧ ∃ g cap, Γ'' = rowP 3 1 g (m + 1) cap (intsI (l.take (m + 1))) :: blk k2 #[.slice (ptr g) (m + 1) cap] 44 :: blk k #[.slice p l.length c] 44 :: Γ) ?_ ?_
    · rintro Γ' w' ⟨Γ'', rfl, hi⟩ h'
      exact hΦ Γ'' w' hi h'
    · intro K X R w4 h4 hK
      refine ⟨_, _, _, h4.ld (b := k2) (by repeat (first | exact List.Mem.head _ | refine List.Mem.tail _ ?_)) rfl, ?_⟩
      refine push1_t (i := Tryz.t3) (z := .int .i64 0) (by kernel_rfl) (by kernel_rfl) (by kernel_rfl) (by kernel_rfl) (by kernel_rfl) (by kernel_rfl) h4 (.tail (.tail .head)) rfl (by omega) fun g' cap' w5 h5 => ?_
      rw [intsI_take l hm] at h5
      refine St.t h5 (by repeat (first | exact Turn.head | apply Turn.tail)) (by simp) (by rfl) rfl fun w6 h6 => hK (ob d (.deferred (some [])) :: _) w6 ⟨_, rfl, g', cap', rfl⟩ ?_
      exact h6.swap (Pick.perm (a := rowP 3 1 g' (m + 1) cap' (intsI (l.take (m + 1)))) (Γ := ob l' _ :: ob d _ :: rowP 3 1 g' (m + 1) cap' (intsI (l.take (m + 1))) :: _) (.tail (.tail .head))).symm
  · rintro d Γ' w' ⟨g, cap, rfl⟩ h'
    rw [List.take_length] at h'
    refine ⟨_, _, _, h'.ld (b := k2) (by repeat (first | exact List.Mem.head _ | refine List.Mem.tail _ ?_)) rfl, ?_⟩
    exact shut_mark (Q := fun w2 => ∃ g' cap', Value.slice (ptr g) l.length cap = .slice (ptr g') l.length cap' ∧ T [] w0 w2 (rowP 3 1 g' l.length cap' (intsI l) :: Γ)) h' fun w2 h2 => ⟨g, cap, rfl, T.dropAt (T.dropAt h2 (.tail .head)) (.tail .head)⟩
theorem below_ext {w w' : World} (h : Below w.heap.size w w') : Ext w w' := ⟨h.os, h.output, h.size, h.block⟩
/-- so many bytes 0 -/
theorem repeat_spec (n : Nat) (hn : n ≤ 1000000) (w : World) : Ret Tryz.prog 42 #[.string (ByteArray.mk #[0]), .int .i64 (n : Int)] w (.string (strB (List.replicate n 0))) := by
  refine (Tryz.strings_Repeat (ByteArray.mk #[0]) n w (by omega) (by show 1 * n ≤ _; omega)).mono fun e w' ⟨he, hb⟩ => ⟨?_, below_ext hb⟩
  rw [he]
  have : ∀ m : Nat, Lib.repeatL (ByteArray.mk #[0]).data.toList m = List.replicate m 0 := by
    intro m
    induction m with
    | zero => rfl
    | succ m ih =>
      show [(0 : UInt8)] ++ Lib.repeatL _ m = _
      rw [ih]; rfl
  rw [this]
end Go.Proofs.YtdfkifgkccnaiaaGreatDoor
