import Derived.Test.YtbecjmfcppginaaGreatM12
import Derived.Test.YtbecjmfcppginaaGreatM14
section
/-! The reference's record: Decode. -/
namespace Go.Sh
open Go.RowKit
theorem pushN_d {P : Program} {F : List Nat} {w0 w : World} {Γ Δ : List A} {t e : TypeId} {i : TypeInfo} {z : Value} {c : Array Value} {size : Nat} (ht : P.underlying t = some (.slice e)) (hi : P.info? e = some i) (hz : i.zero = some z) (hsize : i.size = size) (hzs : z.cells.size = size) (hby : decide (i.bytes ≤ 1000000) = true)
    {g : Option Nat} {n cap : Nat} {xs : List Value} (hT : T F w0 w Γ) (hk : Pick (rowP e size g n cap xs) Γ Δ) (hc : c.size = size) (hv : ∀ u ∈ c.toList, u.oneCell' = true) (hn : n ≤ 1000000) {D : World → Prop} (hD : ∀ k w', T F w0 w' (blk k c e :: Γ) → D w') {K : Option Addr → Nat → Nat → World → Prop} (hK : ∀ g' cap' w', T F w0 w' (rowP e size g' (n + 1) cap' (xs ++ c.toList) :: Δ) → K (ptr g') (n + 1) cap' w') :
    Alloc c e w fun k w1 => D w1 ∧ ∃ (p : Option Addr) (l c : Nat), ∃ w2, (builtin .append #[t, t] t #[false, false] #[.slice (ptr g) n cap, .slice (some ⟨k, 0, none⟩) 1 1]).run P w1 = .ok (.value (.slice p l c)) w2 ∧ K p l c w2 := by
  refine Alloc.t hT fun k w1 hT1 => ⟨hD k w1 hT1, ?_⟩
  have hby' : i.bytes ≤ 1000000 := of_decide_eq_true hby
  have hmul : (n + 1) * i.bytes ≤ 1000001 * 1000000 := Nat.mul_le_mul (by omega) hby'
  obtain ⟨g', cap', w', hr, hT'⟩ := append_t (ty := t) #[false, false] ht hi hz hsize hzs hT1 (.tail hk) (a := ⟨k, 0, none⟩) (m := 1) (c := 1) (news := c.toList) (by rw [Array.length_toList, hc, Nat.one_mul]) (fun j u hu => by
      rw [addr_add, Nat.zero_add]
      exact hT1.ld List.mem_cons_self (by simpa using hu)) hv (by simp only [maxLen]; omega) (by omega)
  refine ⟨_, _, _, w', hr, hK _ _ _ ?_⟩
  exact T.drop (T.swap hT' (.swap _ _ _))
end Go.Sh
namespace Go.Proofs.YtbecjmfcppginaaGreat
open Go.Sh Go.RowKit
set_option linter.unusedVariables false
set_option linter.unusedSimpArgs false
set_option maxRecDepth 20000
set_option maxHeartbeats 1000000
section
variable {F : List Nat} {w0 w : World} {Γ : List A}
theorem withD_get {ps : List RP} {L : List (List UInt8)} {i : Nat} (hi : i < ps.length) : (withD ps L)[i]? = some { ps[i] with data := L.getD i [] } := by
  unfold withD fillN
  rw [List.getElem?_mapIdx, List.getElem?_eq_getElem hi]
  simp only [Option.map_some, if_pos hi]
theorem rdec12_spec (hT : T F w0 w Γ) (b : List UInt8) (hb : b.length ≤ 1000000) {L : List (List UInt8)} {gl : Option Nat} {cl : Nat} (hm : rowP 9 1 gl L.length cl (strV L) ∈ Γ) :
    Calls Tryz.prog 87 #[.string (strB b), .slice (ptr gl) L.length cl] w fun e w' => ∃ g cap, e = .returned (rcV (decR b L) g cap) ∧ T F w0 w' (rowP 115 3 g (decR b L).1.2.2.length cap (rpL (decR b L).1.2.2) :: Γ) := by
  refine (revetmentref12_Decode_calls (R := fun v w' => ∃ g cap, v = rcV (decR b L) g cap ∧ T F w0 w' (rowP 115 3 g (decR b L).1.2.2.length cap (rpL (decR b L).1.2.2) :: Γ)) ?_).mono fun e w' ⟨v, he, g, cap, hv, h⟩ => ⟨g, cap, by rw [he, hv], h⟩
  unfold revetmentref12_Decode
  refine Alloc.t hT fun k4 w1 h1 => ?_
  have h1 : T F w0 w1 (blk k4 zR 99 :: Γ) := h1
  have bad : ∀ (w' : World) (Δ : List A) (x : Int), T F w0 w' (Δ ++ blk k4 zR 99 :: Γ) → decR b L = (zRc, x) →
      St ⟨k4, 0, none⟩ (.int .u64 0) w' fun w2 => St ⟨k4, 1, none⟩ (.int .i64 0) w2 fun w3 => St ⟨k4, 2, none⟩ (.slice none 0 0) w3 fun w4 => ∃ nr2_0 : Int, ∃ nr2_1 : Int, ∃ (pr2_2 : Option Addr) (lr2_2 cr2_2 : Nat), (w4.cell? ⟨k4, 0, none⟩ = some (.int .u64 nr2_0) ∧ w4.cell? ⟨k4, 1, none⟩ = some (.int .i64 nr2_1) ∧ w4.cell? ⟨k4, 2, none⟩ = some (.slice pr2_2 lr2_2 cr2_2)) ∧
        ∃ g cap, (Value.tuple #[.agg #[.int .u64 nr2_0, .int .i64 nr2_1, .slice pr2_2 lr2_2 cr2_2], .int .i64 x]) = rcV (decR b L) g cap ∧ T F w0 w4 (rowP 115 3 g (decR b L).1.2.2.length cap (rpL (decR b L).1.2.2) :: Γ) := by
    intro w' Δ x hT' hd
    have hT' := T.back hT'
    refine St.t (c := zR) (c' := zR) hT' .head (show 0 < 3 by decide) rfl rfl fun w2 h2 => St.t (c := zR) (c' := zR) h2 .head (show 1 < 3 by decide) rfl rfl fun w3 h3 => St.t (c := zR) (c' := zR) h3 .head (show 2 < 3 by decide) rfl rfl fun w4 h4 => ?_
    refine ⟨_, _, _, _, _, ⟨h4.ld (c := zR) List.mem_cons_self rfl, h4.ld (c := zR) (i := 1) List.mem_cons_self rfl, h4.ld (c := zR) (i := 2) List.mem_cons_self rfl⟩, none, 0, ?_, ?_⟩
    · rw [hd]; rfl
    · rw [hd]; exact T.nilRow h4.drop _ _
  have h41 := decH_len b
  have hdec : decR b L = if (decH b).2 ≠ 0 then (zRc, (decH b).2) else if L.length ≠ (decH b).1.2.2.1.length then (zRc, 31) else if ¬ LoadedR (withD (decH b).1.2.2.1 L) then (zRc, 31) else if crcSum L.flatten ≠ (decH b).1.2.2.2 then (zRc, 80) else (((decH b).1.1, (decH b).1.2.1, withD (decH b).1.2.2.1 L), 0) := rfl
  have hhd := rhead12_dec h1 b hb
  generalize decH b = d at hhd hdec h41
  obtain ⟨⟨seq, row, ps, sum⟩, er⟩ := d
  have h41 : ps.length ≤ 41 := h41
  refine hhd.mono fun e w2 ⟨g, cap, he2, h2⟩ => ⟨_, _, _, _, _, _, _, he2, ?_⟩
  have h2 : T F w0 w2 (rowP 115 3 g ps.length cap (rpL ps) :: blk k4 zR 99 :: Γ) := h2
  refine Alloc.t h2 fun k6 w3 h3 => St.t (c := zR) (c' := #[.int .u64 (seq : Int), .int .i64 0, .slice none 0 0]) h3 .head (show 0 < 3 by decide) rfl rfl fun w4 h4 => St.t (c' := #[.int .u64 (seq : Int), .int .i64 row, .slice none 0 0]) h4 .head (show 1 < 3 by decide) rfl rfl fun w5 h5 => St.t (c' := rcC seq row (ptr g) ps.length cap) h5 .head (show 2 < 3 by decide) rfl rfl fun w6 h6 => ?_
  refine ⟨bne_t fun hne => bad w6 [_, _] er h6 (by rw [hdec]; exact if_pos hne), bne_f fun heq => ?_⟩
  have heq : er = 0 := heq
  rw [if_neg (by show ¬ (er ≠ 0); omega)] at hdec
  have sl : ∀ {w' : World} {Δ : List A}, T F w0 w' Δ → blk k6 (rcC seq row (ptr g) ps.length cap) 99 ∈ Δ → w'.cell? ⟨k6, 2, none⟩ = some (.slice (ptr g) ps.length cap) := fun h hm => h.ld (c := rcC seq row (ptr g) ps.length cap) (i := 2) hm rfl
  refine ⟨_, _, _, sl h6 List.mem_cons_self, ?_⟩
  refine ⟨bne_t fun hne => bad w6 [_, _] 31 h6 (by rw [hdec]; exact if_pos (show L.length ≠ ps.length by omega)), bne_f fun heql => ?_⟩
  have hll : L.length = ps.length := by omega
  rw [if_neg (by show ¬ (L.length ≠ ps.length); omega)] at hdec
  have hLo : LoadedR (withD ps L) ↔ ∀ s ∈ L, s.length = 64 := by rw [loaded_datas, withD_datas hll]
  refine Alloc.t h6 fun k29 w13 h13 => ?_
  have h13 : T F w0 w13 (rowP 115 3 (some k29) 0 0 [] :: blk k6 (rcC seq row (ptr g) ps.length cap) 99 :: rowP 115 3 g ps.length cap (rpL ps) :: blk k4 zR 99 :: Γ) := blk_rowN h13 rfl
  refine ⟨fun vs w' => ∃ (i : Nat) (g9 : Option Nat) (c9 : Nat), vs = [.string (strB (L.take i).flatten), .slice (ptr g9) i c9, .int .i64 (i : Int)] ∧ i ≤ L.length ∧ (∀ s ∈ L.take i, s.length = 64) ∧ T F w0 w' (rowP 115 3 g9 i c9 (rpL ((withD ps L).take i)) :: blk k6 (rcC seq row (ptr g) ps.length cap) 99 :: rowP 115 3 g ps.length cap (rpL ps) :: blk k4 zR 99 :: Γ), fun vs _ => match vs with | [_, _, .int _ i] => (L.length - i).toNat | _ => 0, ⟨0, some k29, 0, rfl, by omega, by simp, h13⟩, ?_⟩
  rintro vs w14 ⟨i, g9, c9, rfl, hi, h64, h14⟩
  have hfl : (L.take i).flatten.length = 64 * i := by
    have key : ∀ M : List (List UInt8), (∀ s ∈ M, s.length = 64) → M.flatten.length = 64 * M.length := by
      intro M hM
      induction M with
      | nil => rfl
      | cons x M ih =>
        rw [List.flatten_cons, List.length_append, hM x List.mem_cons_self, ih fun s hs => hM s (List.mem_cons_of_mem _ hs), List.length_cons]; omega
    rw [key _ h64, List.length_take, Nat.min_eq_left hi]
  refine ⟨_, _, _, _, _, rfl, dec_t fun hlt => ?_, dec_f fun hge => ?_⟩
  · have hlt : i < L.length := by omega
    have hlp : i < ps.length := by omega
    obtain ⟨bl, rfl, hcl⟩ := T.row1 (i := i) (v := .string (strB (L.getD i []))) h14 (List.mem_cons_of_mem _ (List.mem_cons_of_mem _ (List.mem_cons_of_mem _ (List.mem_cons_of_mem _ hm)))) (by
      unfold strV; rw [List.getElem?_map, List.getD_eq_getElem?_getD, List.getElem?_eq_getElem hlt]; rfl)
    have hgi : L[i]? = some (L.getD i []) := by rw [List.getD_eq_getElem?_getD, List.getElem?_eq_getElem hlt]; rfl
    have hmi : L.getD i [] ∈ L := List.mem_of_getElem? hgi
    have htk : L.take (i + 1) = L.take i ++ [L.getD i []] := by rw [List.take_add_one, hgi]; rfl
    have hwt : (withD ps L).take (i + 1) = (withD ps L).take i ++ [{ ps[i] with data := L.getD i [] }] := by rw [List.take_add_one, withD_get hlp]; rfl
    refine ⟨_, rfl, by omega, by omega, _, by rw [Int.toNat_natCast]; exact hcl, ?_⟩
    rw [strB_size]
    have hcp : ∀ (w' : World) (Δ : List A), T F w0 w' (Δ ++ (blk k6 (rcC seq row (ptr g) ps.length cap) 99 :: rowP 115 3 g ps.length cap (rpL ps) :: blk k4 zR 99 :: Γ)) → ∃ a, ptr g = some a ∧ w'.cell? (a.add (i * 3)) = some (.int .i64 (ps[i]).col) ∧ w'.cell? ((a.add (i * 3)).add 1) = some (.int .i64 (ps[i]).off) := fun w' Δ h' => by
      obtain ⟨a, ha, q0, q1, _⟩ := (T.parts12 h' (List.mem_append_right _ (List.mem_cons_of_mem _ List.mem_cons_self))).get hlp
      exact ⟨a, ha, q0, q1⟩
    have hcl2 : ∀ (w' : World) (Δ : List A), T F w0 w' (Δ ++ (blk k6 (rcC seq row (ptr g) ps.length cap) 99 :: rowP 115 3 g ps.length cap (rpL ps) :: blk k4 zR 99 :: Γ)) → w'.cell? (Addr.add ⟨bl, 0, none⟩ (i * 1)) = some (.string (strB (L.getD i []))) := fun w' Δ h' => by
      obtain ⟨b', hb', hc'⟩ := T.row1 (i := i) (v := .string (strB (L.getD i []))) h' (List.mem_append_right _ (List.mem_cons_of_mem _ (List.mem_cons_of_mem _ (List.mem_cons_of_mem _ hm)))) (by
        unfold strV; rw [List.getElem?_map, hgi]; rfl)
      cases hb'; exact hc'
    generalize L.getD i [] = s at hcl2 hmi htk hwt
    generalize ps[i] = x at hcp hwt
    refine ⟨bne_t fun hne => bad w14 [_, _, _] 31 h14 (by rw [hdec]; exact if_pos fun hh => hne (by have := (hLo.1 hh) s hmi; omega)), bne_f fun hs64 => ?_⟩
    refine ⟨_, rfl, by omega, by omega, _, by rw [Int.toNat_natCast]; exact hcl2 w14 [_] h14, ?_, ?_⟩
    · rw [strB_size, strB_size, hfl]; omega
    obtain ⟨ap, hap, _⟩ := hcp w14 [_] h14
    have hcp' : ∀ (w' : World) (Δ : List A), T F w0 w' (Δ ++ (blk k6 (rcC seq row (ptr g) ps.length cap) 99 :: rowP 115 3 g ps.length cap (rpL ps) :: blk k4 zR 99 :: Γ)) → w'.cell? (ap.add (i * 3)) = some (.int .i64 x.col) ∧ w'.cell? ((ap.add (i * 3)).add 1) = some (.int .i64 x.off) := fun w' Δ h' => by
      obtain ⟨a, ha, hh⟩ := hcp w' Δ h'
      rw [hap] at ha; cases ha; exact hh
    have h14d := h14.drew
    refine ⟨fun w' => ∃ Δ, T F w0 w' (Δ ++ (blk k6 (rcC seq row (ptr g) ps.length cap) 99 :: rowP 115 3 g ps.length cap (rpL ps) :: blk k4 zR 99 :: Γ)), ⟨[_], h14d⟩, _, _, _, fun w' ⟨Δ, h'⟩ => sl h' (List.mem_append_right _ List.mem_cons_self), ap, hap, by omega, by omega, x.col, fun w' ⟨Δ, h'⟩ => by rw [Int.toNat_natCast]; exact (hcp' w' Δ h').1, _, _, _, fun w' ⟨Δ, h'⟩ => sl h' (List.mem_append_right _ List.mem_cons_self), ap, hap, by omega, by omega, x.off, fun w' ⟨Δ, h'⟩ => by rw [Int.toNat_natCast]; exact (hcp' w' Δ h').2, _, rfl, by omega, by omega, strB s, fun w' ⟨Δ, h'⟩ => by rw [Int.toNat_natCast]; exact hcl2 w' Δ h', ?_⟩
    refine pushN_d (P := Tryz.prog) (t := 61) (i := Tryz.t115) (z := .agg #[.int .i64 0, .int .i64 0, .string (ByteArray.mk #[])]) (c := rpC { x with data := s }) (size := 3) (by kernel_rfl) (by kernel_rfl) (by kernel_rfl) (by kernel_rfl) (by kernel_rfl) (by kernel_rfl) h14d .head rfl (fun u hu => ?_) (by omega) (fun k w' h' => ⟨[_, _], h'⟩) fun g' cap' w19 h19 => ⟨⟨[_], h19⟩, ⟨i + 1, g', cap', ?_, by omega, fun y hy => ?_, ?_⟩, ?_⟩
    · have hu : u ∈ [Value.int .i64 x.col, .int .i64 x.off, .string (strB s)] := hu
      simp only [List.mem_cons, List.not_mem_nil, or_false] at hu
      rcases hu with rfl | rfl | rfl <;> rfl
    · rw [strB_append, htk, List.flatten_append, wrap64 _ (by omega) (by omega)]
      simp
    · rw [htk] at hy
      rcases List.mem_append.1 hy with hy | hy
      · exact h64 y hy
      · rw [List.mem_singleton.1 hy]; omega
    · rw [hwt, ← rpL_snoc']; exact h19
    · show ((L.length : Int) - IntKind.i64.wrap ((i : Int) + 1)).toNat < ((L.length : Int) - (i : Int)).toNat
      rw [wrap64 _ (by omega) (by omega)]; omega
  · have hie : i = L.length := by omega
    subst hie
    rw [List.take_length] at h64 hfl ⊢
    rw [if_neg (fun hn => hn (hLo.2 h64))] at hdec
    have hwl := withD_len ps L
    rw [List.take_of_length_le (by omega)] at h14
    refine (rsum_spec (strB L.flatten) (by rw [strB_size]; omega) w14).mono fun e w20 ⟨he20, hx20⟩ => ⟨_, he20, ?_⟩
    have h20 := h14.quiet hx20
    have eL : (strB L.flatten).data.toList = L.flatten := rfl
    rw [eL]
    refine ⟨bne_t fun hne => bad w20 [_, _, _] 80 h20 (by rw [hdec]; exact if_pos fun hq => hne (by rw [hq])), bne_f fun hsm => ?_⟩
    have hsm : ((crcSum L.flatten).toNat : Int) = (sum.toNat : Int) := hsm
    have hsm : crcSum L.flatten = sum := BitVec.eq_of_toNat_eq (by omega)
    rw [if_neg (fun hn => hn hsm)] at hdec
    have hl2 : L.length = (withD ps L).length := by omega
    rw [hl2] at h20 ⊢
    generalize withD ps L = qs at h20 hdec
    refine St.t (c := rcC seq row (ptr g) ps.length cap) (c' := rcC seq row (ptr g9) qs.length c9) h20 (.tail .head) (show 2 < 3 by decide) rfl rfl fun w24 h24 => ?_
    have m2 : ∀ {a1 a2 : A} {Δ : List A}, a2 ∈ a1 :: a2 :: Δ := fun {a1 a2 Δ} => List.mem_cons_of_mem _ List.mem_cons_self
    refine ⟨_, _, _, _, _, ⟨h24.ld (b := k6) (c := rcC seq row (ptr g9) qs.length c9) m2 rfl, h24.ld (b := k6) (c := rcC seq row (ptr g9) qs.length c9) (i := 1) m2 rfl, h24.ld (b := k6) (c := rcC seq row (ptr g9) qs.length c9) (i := 2) m2 rfl⟩, ?_⟩
    have h24' := T.dropAt (T.dropAt h24 (.tail .head)) (.tail .head)
    refine St.t (c := zR) (c' := #[.int .u64 (seq : Int), .int .i64 0, .slice none 0 0]) h24' (.tail .head) (show 0 < 3 by decide) rfl rfl fun w25 h25 => St.t (c' := #[.int .u64 (seq : Int), .int .i64 row, .slice none 0 0]) h25 (.tail .head) (show 1 < 3 by decide) rfl rfl fun w26 h26 => St.t (c' := rcC seq row (ptr g9) qs.length c9) h26 (.tail .head) (show 2 < 3 by decide) rfl rfl fun w27 h27 => ?_
    refine ⟨_, _, _, _, _, ⟨h27.ld (c := rcC seq row (ptr g9) qs.length c9) m2 rfl, h27.ld (c := rcC seq row (ptr g9) qs.length c9) (i := 1) m2 rfl, h27.ld (c := rcC seq row (ptr g9) qs.length c9) (i := 2) m2 rfl⟩, g9, c9, ?_, ?_⟩
    · rw [hdec]; rfl
    · rw [hdec]; exact T.dropAt h27 (.tail .head)
end
end Go.Proofs.YtbecjmfcppginaaGreat
end
section
/-! ring: what stands on a drive when steps are taken. -/
namespace Go.Proofs.YtbecjmfcppginaaGreat
open Go.Sh Go.RowKit
set_option linter.unusedVariables false
set_option linter.unusedSimpArgs false
set_option maxRecDepth 20000
set_option maxHeartbeats 1000000
def updF (f : Nat → ByteArray) (i : Nat) (s : ByteArray) : Nat → ByteArray := fun j => if j = i then s else f j
/-- no sector is spoilt; f is what is read -/
structure AD.Wet (a : AD) (n : Nat) (f : Nat → ByteArray) : Prop where
  on : a.On n
  sp : ∀ j, a.spoilt j = false
  top : ∀ j, j < n → a.top j = f j
theorem AD.Hold.wet {a : AD} {n : Nat} {f : Nat → ByteArray} (h : a.Hold n f) : a.Wet n f := ⟨h.on, h.sp, fun j hj => by rw [AD.top_none (h.pend j), h.safe j hj]⟩
theorem AD.Wet.put {a : AD} {n : Nat} {f : Nat → ByteArray} (h : a.Wet n f) {i : Int} (h0 : 0 ≤ i) (hi : i < (n : Int)) {s : ByteArray} (hs : s.size = 64) : a.put i s = 0 := h.on.put ⟨h0, hi⟩ hs
theorem AD.Wet.write {a : AD} {n : Nat} {f : Nat → ByteArray} (h : a.Wet n f) {i : Int} (h0 : 0 ≤ i) (hi : i < (n : Int)) {s : ByteArray} (hs : s.size = 64) : (a.write i s).Wet n (updF f i.toNat s) := by
  have hp := h.put h0 hi hs
  refine ⟨h.on.write i s, fun j => ?_, fun j hj => ?_⟩
  · rw [AD.write_of hp]
    show (if j = i.toNat then false else a.spoilt j) = false
    rw [h.sp]; split <;> rfl
  · rw [AD.write_top hp]
    unfold updF
    split
    · rfl
    · exact h.top j hj
theorem AD.Wet.flush {a : AD} {n : Nat} {f : Nat → ByteArray} (h : a.Wet n f) : a.flush.Hold n f := by
  have hf := h.on.flush1
  refine ⟨h.on.flush, fun j => ?_, fun j => ?_, fun j hj => ?_⟩
  · rw [AD.flush_of hf]; rfl
  · rw [AD.flush_of hf]; exact h.sp j
  · rw [(AD.flush_safe hf (j := j) (by rw [h.on.len]; exact hj)).1]; exact h.top j hj
theorem AD.Wet.read {a : AD} {n : Nat} {f : Nat → ByteArray} (h : a.Wet n f) {i : Int} (h0 : 0 ≤ i) (hi : i < (n : Int)) : a.read i = (f i.toNat, 0) := by
  rw [read_on h.on ⟨h0, hi⟩, if_neg (by rw [h.sp]; decide), h.top _ (by omega)]
theorem AD.Wet.congr {a : AD} {n : Nat} {f g : Nat → ByteArray} (h : a.Wet n f) (e : ∀ j, j < n → f j = g j) : a.Wet n g := ⟨h.on, h.sp, fun j hj => by rw [h.top j hj, e j hj]⟩
theorem AD.Hold.congr {a : AD} {n : Nat} {f g : Nat → ByteArray} (h : a.Hold n f) (e : ∀ j, j < n → f j = g j) : a.Hold n g := ⟨h.on, h.pend, h.sp, fun j hj => by rw [h.safe j hj, e j hj]⟩
/-- a crash of a drive where nothing is pending changes nothing -/
theorem AD.Hold.crash0 {a : AD} {n : Nat} {f : Nat → ByteArray} (h : a.Hold n f) (keep : List UInt8) : (a.crash keep).Hold n f := by
  refine ⟨⟨h.on.dead, rfl, ?_⟩, fun j => rfl, fun j => h.sp j, fun j hj => ?_⟩
  · show (keptFrom (keepG keep) a.pend 0 0 a.safe).length = n
    rw [keptFrom_len]; exact h.on.len
  · show (keptFrom (keepG keep) a.pend 0 0 a.safe).getD j noB = _
    obtain ⟨k', hk⟩ := keptFrom_get (keepG keep) a.pend noB a.safe 0 0 j (by rw [h.on.len]; exact hj)
    rw [hk, Nat.zero_add, h.pend, if_pos rfl, h.safe j hj]
def opsF : (Nat → ByteArray) → List Op → Nat → ByteArray
  | f, [] => f
  | f, some x :: l => opsF (updF f x.1.toNat x.2) l
  | f, none :: l => opsF f l
theorem opsF_app : ∀ (l m : List Op) (f : Nat → ByteArray), opsF f (l ++ m) = opsF (opsF f l) m
  | [], m, f => rfl
  | some x :: l, m, f => opsF_app l m _
  | none :: l, m, f => opsF_app l m _
def OpsOk (n : Nat) (l : List Op) : Prop := ∀ y, some y ∈ l → 0 ≤ y.1 ∧ y.1 < (n : Int) ∧ y.2.size = 64
theorem runS_wet {n : Nat} : ∀ (l : List Op) {a : AD} {f : Nat → ByteArray}, a.Wet n f → OpsOk n l → (runS a l).2 = 0 ∧ (runS a l).1.Wet n (opsF f l)
  | [], a, f, h, _ => ⟨rfl, h⟩
  | some x :: l, a, f, h, ho => by
    obtain ⟨h0, h1, h2⟩ := ho x List.mem_cons_self
    have hp := h.put h0 h1 h2
    have e : runS a (some x :: l) = runS (a.write x.1 x.2) l := if_neg (fun hn => hn hp)
    rw [e]
    exact runS_wet l (h.write h0 h1 h2) fun y hy => ho y (List.mem_cons_of_mem _ hy)
  | none :: l, a, f, h, ho => by
    have e : runS a (none :: l) = runS a.flush l := if_neg (fun hn => hn h.on.flush1)
    rw [e]
    exact runS_wet l h.flush.wet fun y hy => ho y (List.mem_cons_of_mem _ hy)
theorem runS_app : ∀ (l m : List Op) {a : AD}, (runS a l).2 = 0 → runS a (l ++ m) = runS (runS a l).1 m
  | [], m, a, _ => rfl
  | some x :: l, m, a, h => by
    by_cases hp : a.put x.1 x.2 = 0
    · have e : ∀ k, runS a (some x :: k) = runS (a.write x.1 x.2) k := fun k => if_neg (fun hn => hn hp)
      rw [List.cons_append, e, e]
      rw [e] at h
      exact runS_app l m h
    · have e : ∀ k, runS a (some x :: k) = (a.write x.1 x.2, a.put x.1 x.2) := fun k => if_pos hp
      rw [e] at h; exact absurd h hp
  | none :: l, m, a, h => by
    by_cases hp : a.flush1 = 0
    · have e : ∀ k, runS a (none :: k) = runS a.flush k := fun k => if_neg (fun hn => hn hp)
      rw [List.cons_append, e, e]
      rw [e] at h
      exact runS_app l m h
    · have e : ∀ k, runS a (none :: k) = (a.flush, a.flush1) := fun k => if_pos hp
      rw [e] at h; exact absurd h hp
theorem runS_hold {n : Nat} {l : List Op} {a : AD} {f : Nat → ByteArray} (h : a.Wet n f) (ho : OpsOk n l) : (runS a (l ++ [none])).2 = 0 ∧ (runS a (l ++ [none])).1.Hold n (opsF f l) := by
  obtain ⟨h1, h2⟩ := runS_wet l h ho
  rw [runS_app l [none] h1]
  have e : runS (runS a l).1 [none] = ((runS a l).1.flush, 0) := if_neg (fun hn => hn h2.on.flush1)
  rw [e]; exact ⟨rfl, h2.flush⟩
/-- what a ring's slots are emptied to -/
def slotF (f : Nat → ByteArray) (n : Nat) : Nat → ByteArray := fun j => if 4 ≤ j ∧ (j - 4) % 41 = 0 ∧ (j - 4) / 41 < n then zS else f j
theorem slotOps_f (f : Nat → ByteArray) : ∀ n, opsF f (slotOps n) = slotF f n
  | 0 => by funext j; unfold slotF; rw [if_neg (by omega)]; rfl
  | n + 1 => by
    rw [slotOps_next, opsF_app, slotOps_f f n]
    show updF (slotF f n) (4 + 41 * (n : Int)).toNat zS = _
    funext j
    unfold updF slotF
    by_cases h : j = (4 + 41 * (n : Int)).toNat
    · rw [if_pos h, if_pos (by omega)]
    · rw [if_neg h]
      by_cases h2 : 4 ≤ j ∧ (j - 4) % 41 = 0 ∧ (j - 4) / 41 < n
      · rw [if_pos h2, if_pos (by omega)]
      · rw [if_neg h2, if_neg (by omega)]
theorem zS_size : zS.size = 64 := rfl
theorem slotOps_ok {n N : Nat} (h : 4 + 41 * n ≤ N) : OpsOk N (slotOps n) := by
  intro y hy
  obtain ⟨i, hi, e⟩ := List.mem_map.1 hy
  cases e
  have := List.mem_range.1 hi
  exact ⟨by omega, by show 4 + 41 * (i : Int) < N; omega, rfl⟩
def loadF (f : Nat → ByteArray) (at_ : Nat) (L : List (List UInt8)) (k : Nat) : Nat → ByteArray := fun j => if at_ + 1 ≤ j ∧ j < at_ + 1 + k then strB (L.getD (j - at_ - 1) []) else f j
theorem loadOps_f (f : Nat → ByteArray) (at_ : Nat) (L : List (List UInt8)) : ∀ k, opsF f (loadOps (at_ : Int) L k) = loadF f at_ L k
  | 0 => by funext j; unfold loadF; rw [if_neg (by omega)]; rfl
  | k + 1 => by
    show opsF f (loadOps (at_ : Int) L k ++ [_]) = _
    rw [opsF_app, loadOps_f f at_ L k]
    show updF (loadF f at_ L k) ((at_ : Int) + 1 + (k : Int)).toNat (strB (L.getD k [])) = _
    funext j
    unfold updF loadF
    by_cases h : j = ((at_ : Int) + 1 + (k : Int)).toNat
    · rw [if_pos h, if_pos (by omega), show j - at_ - 1 = k by omega]
    · rw [if_neg h]
      by_cases h2 : at_ + 1 ≤ j ∧ j < at_ + 1 + k
      · rw [if_pos h2, if_pos (by omega)]
      · rw [if_neg h2, if_neg (by omega)]
theorem loadOps_ok {at_ N : Nat} {L : List (List UInt8)} (hL : ∀ s ∈ L, s.length = 64) : ∀ {k : Nat}, k ≤ L.length → at_ + 1 + k ≤ N → OpsOk N (loadOps (at_ : Int) L k)
  | 0, _, _ => fun y hy => by simp [loadOps] at hy
  | k + 1, hk, hN => fun y hy => by
    have hy : some y ∈ loadOps (at_ : Int) L k ++ [some ((at_ : Int) + 1 + (k : Int), strB (L.getD k []))] := hy
    rcases List.mem_append.1 hy with hy | hy
    · exact loadOps_ok hL (by omega) (by omega) y hy
    · have e := Option.some.inj (List.mem_singleton.1 hy)
      subst e
      refine ⟨by show 0 ≤ (at_ : Int) + 1 + (k : Int); omega, by show (at_ : Int) + 1 + (k : Int) < N; omega, ?_⟩
      rw [strB_size, List.getD_eq_getElem?_getD, List.getElem?_eq_getElem (show k < L.length by omega)]
      exact hL _ (List.getElem_mem _)
end Go.Proofs.YtbecjmfcppginaaGreat
end
section
/-! The reference's ring: Slots, Mark, first, Left, Format, Trim. -/
namespace Go.Proofs.YtbecjmfcppginaaGreat
open Go.Sh Go.RowKit
set_option linter.unusedVariables false
set_option linter.unusedSimpArgs false
set_option maxRecDepth 20000
set_option maxHeartbeats 1000000
theorem zS_eq : zeroSec = zS := by
  unfold zeroSec zS strB
  rw [List.toArray_replicate]
theorem slots13_spec (n : Int) (h0 : -9223372036854775804 ≤ n) (h1 : n ≤ 9223372036854775807) (w : World) : Ret Tryz.prog 11 #[.int .i64 n] w (.int .i64 (slotsN n)) := by
  refine ret_of (revetmentref13_Slots_calls ?_)
  unfold revetmentref13_Slots
  refine ⟨dec_t fun h => ⟨?_, Ext.refl w⟩, dec_f fun h => ⟨?_, Ext.refl w⟩⟩
  · have : slotsN n = 0 := by unfold slotsN; omega
    rw [this]
  · rw [wrap64 (n - 4) (by omega) (by omega), Int.tdiv_eq_ediv_of_nonneg (by omega), wrap64 _ (by omega) (by omega)]
    have : slotsN n = (n - 4) / 41 := by unfold slotsN; omega
    rw [this]
theorem mark13_spec {n : Nat} (hn : n < 2 ^ 64) (w : World) : Ret Tryz.prog 40 #[.int .u64 (n : Int)] w (.string (strB (markB n))) := by
  refine ret_of (revetmentref13_Mark_calls ?_)
  unfold revetmentref13_Mark
  refine Alloc.t (T.nil w) fun k9 w1 h1 => ?_
  have h1 : T [] w w1 [rowP 57 1 (some k9) 1 1 (u64s [n])] := blk_row h1 rfl rfl (by decide)
  refine Alloc.t h1 fun k10 w2 h2 => ?_
  have h2 : T [] w w2 (rowP 3 1 (some k10) 1 1 (ints [8]) :: [rowP 57 1 (some k9) 1 1 (u64s [n])]) := blk_row h2 rfl rfl (by decide)
  have hf : ∀ (i m x : Nat), [n][i]? = some m → [8][i]? = some x → m < 256 ^ x := fun i m x hm hx => by
    match i, hm, hx with
    | 0, hm, hx =>
      cases hm; cases hx
      have e : (256 : Nat) ^ 8 = 2 ^ 64 := by decide
      omega
    | i + 1, hm, _ => simp at hm
  refine (rencode_spec (ns := [n]) (ws := [8]) rwid8 rfl hf h2 (g1 := some k9) (g2 := some k10) (n1 := 1) (n2 := 1) (c1 := 1) (c2 := 1) rfl rfl (List.mem_cons_of_mem _ List.mem_cons_self) List.mem_cons_self).mono fun e w3 ⟨he3, h3⟩ => ⟨_, _, he3, ?_⟩
  rw [show encP [n] [8] = leB n 8 by simp [encP]]
  have eM : (ByteArray.mk #[82, 86, 84, 77]) = strB magM := rfl
  have l8 := leB_len n 8
  have hl : (magM ++ leB n 8).length = 12 := by rw [List.length_append, l8]; rfl
  rw [eM, strB_append]
  refine ⟨by rw [strB_size, strB_size, l8]; decide, ?_⟩
  exact (rseal_spec (strB (magM ++ leB n 8)) 64 (by rw [strB_size, hl]; omega) (by omega) w3).mono fun e w5 ⟨he5, hx5⟩ => ⟨_, _, he5, rfl, h3.chg.ext.trans hx5⟩
/-- the reference's ring -/
def krC (p t n : Nat) : Array Value := #[.pointer (some ⟨p, 0, none⟩), .int .u64 (t : Int), .int .u64 (n : Int)]
theorem write_len (a : AD) (i : Int) (s : ByteArray) : (a.write i s).safe.length = a.safe.length := by unfold AD.write; split <;> rfl
theorem flush_len (a : AD) : a.flush.safe.length = a.safe.length := by
  unfold AD.flush
  split
  · rfl
  · exact keptFrom_len ..
theorem runS_len : ∀ (l : List Op) (a : AD), (runS a l).1.safe.length = a.safe.length
  | [], a => rfl
  | some x :: l, a => by
    unfold runS
    split
    · exact write_len ..
    · rw [runS_len l, write_len]
  | none :: l, a => by
    unfold runS
    split
    · exact flush_len _
    · rw [runS_len l, flush_len]
section
variable {p r t n : Nat} {a : AD} {F : List Nat} {w0 w : World} {X : List A}
theorem Rf.len (h : Rf p a F w0 w X) : ∃ g c, w.cell? ⟨p, 0, none⟩ = some (.slice g a.safe.length c) := by
  obtain ⟨R, rfl, hA, hT⟩ := h
  exact ⟨ptr R.gs, R.cs, by rw [← hA.safe]; exact hT.ld (b := R.p) (List.mem_append_left _ (List.mem_append_left _ List.mem_cons_self)) rfl⟩
theorem Rf.len64 (h : Rf p a F w0 w X) : a.safe.length ≤ 4096 := by
  obtain ⟨R, rfl, hA, hT⟩ := h
  exact hA.n1
theorem first13_spec (h : Rf p a F w0 w X) (h1 : 1 ≤ (slotsN (a.safe.length : Int)).toNat) (m : Nat) : Ret Tryz.prog 62 #[.pointer (some ⟨p, 0, none⟩), .int .u64 (m : Int)] w (.int .i64 (ratF (slotsN (a.safe.length : Int)).toNat m)) := by
  refine ret_of (revetmentref13_first_calls ?_)
  unfold revetmentref13_first
  have h64 := h.len64
  obtain ⟨g, c, hc⟩ := h.len
  obtain ⟨S, hS⟩ : ∃ S : Nat, slotsN (a.safe.length : Int) = (S : Int) := ⟨(slotsN (a.safe.length : Int)).toNat, by unfold slotsN; omega⟩
  have hS99 : S ≤ 99 := by unfold slotsN at hS; omega
  rw [hS, Int.toNat_natCast] at h1 ⊢
  refine ⟨_, rfl, _, _, _, hc, ?_⟩
  refine (slots13_spec (a.safe.length : Int) (by omega) (by omega) w).mono fun e w1 ⟨he1, hx1⟩ => ⟨_, he1, ?_⟩
  rw [hS]
  have e0 : IntKind.u64.wrap (S : Int) = (S : Int) := by rw [wrapU64]; omega
  rw [e0]
  refine ⟨by omega, ?_, hx1⟩
  unfold ratF
  have hlt : m % S < S := Nat.mod_lt _ (by omega)
  rw [Int.tmod_eq_emod_of_nonneg (by omega), ← Int.natCast_emod]
  generalize m % S = j at hlt
  rw [wrap64 (j : Int) (by omega) (by omega), wrap64 (41 * (j : Int)) (by omega) (by omega), wrap64 _ (by omega) (by omega)]
theorem left13_spec (h : Rf p a F w0 w X) (hm : blk r (krC p t n) 65 ∈ X) : Calls Tryz.prog 30 #[.pointer (some ⟨r, 0, none⟩)] w fun e w' => e = .returned (.int .i64 (leftF (slotsN (a.safe.length : Int)).toNat t n)) ∧ Rf p a F w0 w' X := by
  refine (revetmentref13_Ring_Left_calls (R := fun v w' => v = .int .i64 (leftF (slotsN (a.safe.length : Int)).toNat t n) ∧ Rf p a F w0 w' X) ?_).mono fun e w' ⟨v, he, hv, h⟩ => ⟨by rw [he, hv], h⟩
  unfold revetmentref13_Ring_Left
  have h64 := h.len64
  obtain ⟨g, c, hc⟩ := h.drew.len
  obtain ⟨S, hS⟩ : ∃ S : Nat, slotsN (a.safe.length : Int) = (S : Int) := ⟨(slotsN (a.safe.length : Int)).toNat, by unfold slotsN; omega⟩
  rw [hS, Int.toNat_natCast]
  refine ⟨fun w' => Rf p a F w0 w' X ∧ w'.cell? ⟨p, 0, none⟩ = some (.slice g a.safe.length c), ⟨h.drew, hc⟩, _, rfl, _, fun w' h' => h'.1.under.ld (c := krC p t n) hm rfl, _, rfl, _, _, _, fun w' h' => h'.2, ?_⟩
  refine (slots13_spec (a.safe.length : Int) (by omega) (by omega) _).mono fun e w1 ⟨he1, hx1⟩ => ⟨_, he1, ⟨h.drew.quiet hx1, cell_ext hx1 hc⟩, _, rfl, (n : Int), fun w' h' => by rw [addr_add]; exact h'.1.under.ld (c := krC p t n) hm rfl, _, rfl, (t : Int), fun w' h' => by rw [addr_add]; exact h'.1.under.ld (c := krC p t n) hm rfl, ?_, h.drew.quiet hx1⟩
  rw [hS]; rfl
theorem Rf.Few' {N : Nat} (h : a.Few N) (hN : N ≤ 999999) : a.Few 999999 := h.mono hN
theorem format13_spec (h : Rf p a F w0 w X) {N : Nat} (hF : a.Few N) (hN : N + 200 ≤ 999999) :
    Calls Tryz.prog 9 #[.pointer (some ⟨p, 0, none⟩)] w fun e w' => e = .returned (.int .i64 (formatF a).2) ∧ Rf p (formatF a).1 F w0 w' X := by
  refine (revetmentref13_Format_calls (R := fun v w' => v = .int .i64 (formatF a).2 ∧ Rf p (formatF a).1 F w0 w' X) ?_).mono fun e w' ⟨v, he, hv, h⟩ => ⟨by rw [he, hv], h⟩
  unfold revetmentref13_Format
  have h64 := h.len64
  obtain ⟨g, c, hc⟩ := h.len
  obtain ⟨S, hS⟩ : ∃ S : Nat, slotsN (a.safe.length : Int) = (S : Int) := ⟨(slotsN (a.safe.length : Int)).toNat, by unfold slotsN; omega⟩
  have hS99 : S ≤ 99 := by unfold slotsN at hS; omega
  have hf : formatF a = if (S : Int) = 0 then (a, 1) else runS a (fmtOps S) := by unfold formatF; rw [hS]; rfl
  rw [hf]
  refine ⟨_, rfl, _, _, _, hc, ?_⟩
  refine (slots13_spec (a.safe.length : Int) (by omega) (by omega) w).mono fun e w1 ⟨he1, hx1⟩ => ⟨_, he1, ?_⟩
  rw [hS]
  refine ⟨beq_t fun h0 => by rw [if_pos h0]; exact ⟨rfl, h.quiet hx1⟩, beq_f fun hne => ?_⟩
  rw [if_neg hne]
  refine ⟨fun vs w' => ∃ (i : Nat) (a' : AD), vs = [.int .i64 (i : Int)] ∧ i ≤ S ∧ a'.safe.length = a.safe.length ∧ a'.Few (N + i) ∧ Rf p a' F w0 w' X ∧ runS a (fmtOps S) = runS a' ((slotOps S).drop i ++ [some (3, strB (markB 0)), none]), fun vs _ => match vs with | [.int _ i] => (S - i).toNat | _ => 0, ⟨0, a, rfl, by omega, rfl, hF, h.quiet hx1, rfl⟩, ?_⟩
  rintro vs w2 ⟨i, a', rfl, hi, hlen, hF', h2, hr⟩
  obtain ⟨g2, c2, hc2⟩ := h2.len
  rw [hlen] at hc2
  refine ⟨_, rfl, _, rfl, _, _, _, hc2, ?_⟩
  refine (slots13_spec (a.safe.length : Int) (by omega) (by omega) w2).mono fun e w3 ⟨he3, hx3⟩ => ⟨_, he3, ?_⟩
  have h3 := h2.quiet hx3
  rw [hS]
  refine ⟨dec_t fun hlt => ?_, dec_f fun hge => ?_⟩
  · have hlt : i < S := by omega
    have hops : (slotOps S).drop i = some (4 + 41 * (i : Int), zS) :: (slotOps S).drop (i + 1) := by
      have hl : i < (slotOps S).length := by unfold slotOps; rw [List.length_map, List.length_range]; exact hlt
      have hg : (slotOps S)[i]? = some (some (4 + 41 * (i : Int), zS)) := by
        unfold slotOps; rw [List.getElem?_map, List.getElem?_range hlt]; rfl
      rw [List.drop_eq_getElem_cons hl, (List.getElem?_eq_some_iff.1 hg).2]
    rw [hops, List.cons_append] at hr
    refine (blank_spec w3).mono fun e w4 ⟨he4, hx4⟩ => ⟨_, he4, ?_⟩
    have e41 : IntKind.i64.wrap (4 + IntKind.i64.wrap (41 * (i : Int))) = 4 + 41 * (i : Int) := by
      rw [wrap64 (41 * (i : Int)) (by omega) (by omega), wrap64 _ (by omega) (by omega)]
    rw [e41, zS_eq]
    refine (rwrite_r (h3.quiet hx4) (hF'.mono (by omega)) (4 + 41 * (i : Int)) zS).mono fun e w5 ⟨he5, h5⟩ => ⟨_, he5, bne_t fun hn => ?_, bne_f fun hz => ?_⟩
    · rw [hr]
      have : runS a' (some (4 + 41 * (i : Int), zS) :: ((slotOps S).drop (i + 1) ++ [some (3, strB (markB 0)), none])) = (a'.write (4 + 41 * (i : Int)) zS, a'.put (4 + 41 * (i : Int)) zS) := if_pos hn
      rw [this]; exact ⟨rfl, h5⟩
    · have : runS a' (some (4 + 41 * (i : Int), zS) :: ((slotOps S).drop (i + 1) ++ [some (3, strB (markB 0)), none])) = runS (a'.write (4 + 41 * (i : Int)) zS) ((slotOps S).drop (i + 1) ++ [some (3, strB (markB 0)), none]) := if_neg (fun hh => hh hz)
      rw [this] at hr
      refine ⟨⟨i + 1, _, ?_, by omega, by rw [write_len]; exact hlen, (hF'.write _ _).mono (by omega), h5, hr⟩, ?_⟩
      · rw [wrap64 _ (by omega) (by omega)]; rfl
      · show ((S : Int) - IntKind.i64.wrap ((i : Int) + 1)).toNat < ((S : Int) - (i : Int)).toNat
        rw [wrap64 _ (by omega) (by omega)]; omega
  · have hie : i = S := by omega
    subst hie
    have hd : (slotOps i).drop i = [] := List.drop_eq_nil_of_le (by unfold slotOps; rw [List.length_map, List.length_range]; exact Nat.le_refl _)
    rw [hd, List.nil_append] at hr
    rw [hr]
    refine (mark13_spec (n := 0) (by decide) w3).mono fun e w6 ⟨he6, hx6⟩ => ⟨_, he6, ?_⟩
    refine (rwrite_r (h3.quiet hx6) (hF'.mono (by omega)) 3 (strB (markB 0))).mono fun e w7 ⟨he7, h7⟩ => ⟨_, he7, bne_t fun hn => ?_, bne_f fun hz => ?_⟩
    · have : runS a' [some (3, strB (markB 0)), none] = (a'.write 3 (strB (markB 0)), a'.put 3 (strB (markB 0))) := if_pos hn
      rw [this]; exact ⟨rfl, h7⟩
    · have : runS a' [some (3, strB (markB 0)), none] = runS (a'.write 3 (strB (markB 0))) [none] := if_neg (fun hh => hh hz)
      rw [this]
      refine (rflush_r h7 ((hF'.write _ _).mono (by omega))).mono fun e w8 ⟨he8, h8⟩ => ⟨_, he8, ?_, ?_⟩
      · congr 1
        show _ = (if _ then _ else _ : AD × Int).2
        split
        · rfl
        · rename_i hq; show _ = (0 : Int); omega
      · have : (runS (a'.write 3 (strB (markB 0))) [none]).1 = (a'.write 3 (strB (markB 0))).flush := by
          show (if _ then _ else _ : AD × Int).1 = _
          split <;> rfl
        rw [this]; exact h8
theorem trim13_spec (h : Rf p a F w0 w (blk r (krC p t n) 65 :: X)) {N : Nat} (hF : a.Few N) (hN : N + 2 ≤ 999999) {m : Nat} (hm : m < 2 ^ 64) : Calls Tryz.prog 28 #[.pointer (some ⟨r, 0, none⟩), .int .u64 (m : Int)] w fun e w' => e = .returned (.int .i64 (trimF a t n m).2.2) ∧ Rf p (trimF a t n m).1 F w0 w' (blk r (krC p (trimF a t n m).2.1 n) 65 :: X) := by
  refine (revetmentref13_Ring_Trim_calls (R := fun v w' => v = .int .i64 (trimF a t n m).2.2 ∧ Rf p (trimF a t n m).1 F w0 w' (blk r (krC p (trimF a t n m).2.1 n) 65 :: X)) ?_).mono fun e w' ⟨v, he, hv, h⟩ => ⟨by rw [he, hv], h⟩
  unfold revetmentref13_Ring_Trim
  have hd := h.drew
  refine ⟨fun w' => Rf p a F w0 w' (blk r (krC p t n) 65 :: X), hd, _, rfl, (t : Int), fun w' h' => by rw [addr_add]; exact h'.under.ld (c := krC p t n) List.mem_cons_self rfl, _, rfl, (n : Int), fun w' h' => by rw [addr_add]; exact h'.under.ld (c := krC p t n) List.mem_cons_self rfl, _, rfl, (t : Int), fun w' h' => by rw [addr_add]; exact h'.under.ld (c := krC p t n) List.mem_cons_self rfl, dec_t fun hge => ?_, dec_f fun hlt => ?_⟩
  · have ht : trimF a t n m = (a, t, 1) := if_pos hge
    rw [ht]; exact ⟨rfl, hd⟩
  have ht : trimF a t n m = ((runS a (trimOps m)).1, (if (runS a (trimOps m)).2 = 0 then m else t), (runS a (trimOps m)).2) := if_neg hlt
  rw [ht]
  have hd2 := hd.drew
  refine ⟨fun w' => ∃ a', Rf p a' F w0 w' (blk r (krC p t n) 65 :: X), ⟨a, hd2⟩, _, rfl, _, fun w' ⟨a', h'⟩ => h'.under.ld (c := krC p t n) List.mem_cons_self rfl, ?_⟩
  refine (mark13_spec hm w.drew.drew).mono fun e w1 ⟨he1, hx1⟩ => ⟨_, he1, ⟨a, hd2.quiet hx1⟩, ?_⟩
  refine (rwrite_r (hd2.quiet hx1) (hF.mono (by omega)) 3 (strB (markB m))).mono fun e w2 ⟨he2, h2⟩ => ⟨_, he2, ⟨_, h2⟩, bne_t fun hn => ?_, bne_f fun hz => ?_⟩
  · have : runS a (trimOps m) = (a.write 3 (strB (markB m)), a.put 3 (strB (markB m))) := if_pos hn
    rw [this]
    refine ⟨rfl, ?_⟩
    show Rf p _ F w0 w2 (blk r (krC p (if a.put 3 (strB (markB m)) = 0 then m else t) n) 65 :: X)
    rw [if_neg hn]; exact h2
  · have : runS a (trimOps m) = runS (a.write 3 (strB (markB m))) [none] := if_neg (fun hh => hh hz)
    rw [this]
    refine ⟨_, rfl, _, h2.under.ld (c := krC p t n) List.mem_cons_self rfl, ?_⟩
    refine (rflush_r h2 ((hF.write _ _).mono (by omega))).mono fun e w3 ⟨he3, h3⟩ => ⟨_, he3, bne_t fun hn => ?_, bne_f fun hz2 => ?_⟩
    · have : runS (a.write 3 (strB (markB m))) [none] = ((a.write 3 (strB (markB m))).flush, (a.write 3 (strB (markB m))).flush1) := if_pos hn
      rw [this]
      refine ⟨rfl, ?_⟩
      show Rf p _ F w0 w3 (blk r (krC p (if (a.write 3 (strB (markB m))).flush1 = 0 then m else t) n) 65 :: X)
      rw [if_neg hn]; exact h3
    · have : runS (a.write 3 (strB (markB m))) [none] = ((a.write 3 (strB (markB m))).flush, 0) := if_neg (fun hh => hh hz2)
      rw [this]
      refine ⟨_, rfl, ?_⟩
      rw [addr_add]
      refine Rf.st1 (c' := krC p m n) h3 (show 0 + 1 < 3 by decide) rfl rfl fun w4 h4 => ⟨rfl, h4⟩
theorem Rf.intoT {K : Prop} (h : Rf p a F w0 w X) (hK : ∀ Γ, T F w0 w (X ++ Γ) → (∀ w' Y, T F w0 w' (Y ++ (X ++ Γ)) → Rf p a F w0 w' (Y ++ X)) → K) : K := by
  obtain ⟨R, hR, hA, hT⟩ := h
  refine hK (refL R) (hT.swap List.perm_append_comm) fun w' Y h' => ⟨R, hR, hA, h'.swap ?_⟩
  rw [← List.append_assoc]
  exact List.perm_append_comm
theorem append13_busy (h : Rf p a F w0 w X) (hm : blk r (krC p t n) 65 ∈ X) (hb : leftF (slotsN (a.safe.length : Int)).toNat t n < 1) (row : Int) (q : Option Addr) (m c : Nat) :
    Calls Tryz.prog 25 #[.pointer (some ⟨r, 0, none⟩), .int .i64 row, .slice q m c] w fun e w' => e = .returned (.tuple #[.int .u64 0, .int .i64 130]) ∧ Rf p a F w0 w' X := by
  refine (revetmentref13_Ring_Append_calls (R := fun v w' => v = .tuple #[.int .u64 0, .int .i64 130] ∧ Rf p a F w0 w' X) ?_).mono fun e w' ⟨v, he, hv, h⟩ => ⟨by rw [he, hv], h⟩
  unfold revetmentref13_Ring_Append
  refine ⟨_, rfl, (n : Int), by rw [addr_add]; exact h.under.ld (c := krC p t n) hm rfl, ?_⟩
  exact (left13_spec h hm).mono fun e w1 ⟨he1, h1⟩ => ⟨_, he1, dec_t fun _ => ⟨rfl, h1⟩, dec_f fun hn => absurd (by omega) hn⟩
theorem append13_bad (h : Rf p a F w0 w X) (hm : blk r (krC p t n) 65 ∈ X) (hb : ¬ leftF (slotsN (a.safe.length : Int)).toNat t n < 1) {row : Int} {g : Option Nat} {c : Nat} {l : List RP} (hp : rowP 115 3 g l.length c (rpL l) ∈ X) (hl : l.length ≤ 1000000) (hn : ¬ (PlacedR row l ∧ LoadedR l)) :
    Calls Tryz.prog 25 #[.pointer (some ⟨r, 0, none⟩), .int .i64 row, .slice (ptr g) l.length c] w fun e w' => e = .returned (.tuple #[.int .u64 0, .int .i64 1]) ∧ Rf p a F w0 w' X := by
  refine (revetmentref13_Ring_Append_calls (R := fun v w' => v = .tuple #[.int .u64 0, .int .i64 1] ∧ Rf p a F w0 w' X) ?_).mono fun e w' ⟨v, he, hv, h⟩ => ⟨by rw [he, hv], h⟩
  unfold revetmentref13_Ring_Append
  refine ⟨_, rfl, (n : Int), by rw [addr_add]; exact h.under.ld (c := krC p t n) hm rfl, ?_⟩
  refine (left13_spec h hm).mono fun e w1 ⟨he1, h1⟩ => ⟨_, he1, dec_t fun hh => absurd (by omega) hb, dec_f fun _ => ?_⟩
  refine Rf.intoT h1 fun Γ hT hback => ?_
  exact (rencode12_bad (seq := n) (row := row) hT (List.mem_append_left _ hp) hl hn).mono fun e w2 ⟨he2, h2⟩ => ⟨_, _, _, _, _, he2, yes rfl ⟨rfl, hback w2 [] h2⟩⟩
theorem append13_good (h : Rf p a F w0 w (blk r (krC p t n) 65 :: X)) {N : Nat} (hF : a.Few N) (hN : N + 100 ≤ 999999) (h1S : 1 ≤ (slotsN (a.safe.length : Int)).toNat) (hs : n < 2 ^ 64) (hb : ¬ leftF (slotsN (a.safe.length : Int)).toNat t n < 1) {row : Int} {g : Option Nat} {c : Nat} {l : List RP} (hp : rowP 115 3 g l.length c (rpL l) ∈ X) (hP : PlacedR row l) (hL : LoadedR l) :
    Calls Tryz.prog 25 #[.pointer (some ⟨r, 0, none⟩), .int .i64 row, .slice (ptr g) l.length c] w fun e w' => e = .returned (.tuple #[.int .u64 (if (runS a (appOps (slotsN (a.safe.length : Int)).toNat n row l)).2 = 0 then (n : Int) else 0), .int .i64 (runS a (appOps (slotsN (a.safe.length : Int)).toNat n row l)).2]) ∧ Rf p (runS a (appOps (slotsN (a.safe.length : Int)).toNat n row l)).1 F w0 w' (blk r (krC p t (if (runS a (appOps (slotsN (a.safe.length : Int)).toNat n row l)).2 = 0 then (n + 1) % 2 ^ 64 else n)) 65 :: X) := by
  obtain ⟨S, hS⟩ : ∃ S : Nat, (slotsN (a.safe.length : Int)).toNat = S := ⟨_, rfl⟩
  refine (revetmentref13_Ring_Append_calls (R := fun v w' => v = .tuple #[.int .u64 (if (runS a (appOps (slotsN (a.safe.length : Int)).toNat n row l)).2 = 0 then (n : Int) else 0), .int .i64 (runS a (appOps (slotsN (a.safe.length : Int)).toNat n row l)).2] ∧ Rf p (runS a (appOps (slotsN (a.safe.length : Int)).toNat n row l)).1 F w0 w' (blk r (krC p t (if (runS a (appOps (slotsN (a.safe.length : Int)).toNat n row l)).2 = 0 then (n + 1) % 2 ^ 64 else n)) 65 :: X)) ?_).mono fun e w' ⟨v, he, hv, h⟩ => ⟨by rw [he, hv], h⟩
  unfold revetmentref13_Ring_Append
  have hP40 := hP.2.2.2.1
  have h64 := h.len64
  refine ⟨_, rfl, (n : Int), by rw [addr_add]; exact h.under.ld (c := krC p t n) List.mem_cons_self rfl, ?_⟩
  refine (left13_spec h List.mem_cons_self).mono fun e w1 ⟨he1, h1⟩ => ⟨_, he1, dec_t fun hh => absurd (by omega) hb, dec_f fun _ => ?_⟩
  refine Rf.intoT h1 fun Γ hT hback => ?_
  refine (rencode12_good (seq := n) (row := row) hT hs (List.mem_append_left _ (List.mem_cons_of_mem _ hp)) hP hL).mono fun e w2 ⟨gs, cs, he2, hT2⟩ => ⟨_, _, _, _, _, he2, no rfl ?_⟩
  have h2 : Rf p a F w0 w2 (rowP 9 1 gs l.length cs (strV (datas l)) :: blk r (krC p t n) 65 :: X) := hback w2 [_] hT2
  refine ⟨_, rfl, _, h2.under.ld (c := krC p t n) (List.mem_cons_of_mem _ List.mem_cons_self) rfl, ?_⟩
  refine (first13_spec h2 h1S n).mono fun e w3 ⟨he3, hx3⟩ => ⟨_, he3, ?_⟩
  rw [hS]
  rw [hS] at h1S
  have hS99 : S ≤ 99 := by unfold slotsN at hS; omega
  have h3 := h2.quiet hx3
  have hap : appOps S n row l = loadOps (ratF S n) (datas l) l.length ++ [none, some (ratF S n, strB (headR n row l (sumR l))), none] := rfl
  obtain ⟨at_, hat, hat0, hat1⟩ : ∃ x : Int, ratF S n = x ∧ 0 ≤ x ∧ x ≤ 50000 := ⟨_, rfl, by unfold ratF; omega, by have : n % S < S := Nat.mod_lt _ (by omega); unfold ratF; omega⟩
  rw [hat] at hap ⊢
  rw [hap]
  generalize hhd : strB (headR n row l (sumR l)) = hd
  generalize hLd : datas l = L at h3
  have hLl : L.length = l.length := by rw [← hLd, datas_len]
  have tail : ∀ (a' : AD) (i : Nat), i < l.length → ∃ rest, loadOps at_ L l.length ++ [none, some (at_, hd), none] = loadOps at_ L i ++ (some (at_ + 1 + (i : Int), strB (L.getD i [])) :: rest) ∧ rest = ((List.range' (i + 1) (l.length - (i + 1))).map fun (j : Nat) => some (at_ + 1 + (j : Int), strB (L.getD j []))) ++ [none, some (at_, hd), none] := by
    intro a' i hi
    refine ⟨_, ?_, rfl⟩
    have key : ∀ k j, loadOps at_ L (j + k) = loadOps at_ L j ++ (List.range' j k).map fun (m : Nat) => some (at_ + 1 + (m : Int), strB (L.getD m [])) := by
      intro k
      induction k with
      | zero => intro j; simp
      | succ k ih =>
        intro j
        rw [List.range'_succ, show j + (k + 1) = (j + 1) + k by omega, ih (j + 1)]
        show (loadOps at_ L j ++ [_]) ++ _ = _
        rw [List.append_assoc]; rfl
    have := key (l.length - i) i
    rw [show i + (l.length - i) = l.length by omega] at this
    rw [this, show l.length - i = (l.length - (i + 1)) + 1 by omega, List.range'_succ, List.map_cons, List.append_assoc]
    rfl
  refine ⟨fun vs w' => ∃ (i : Nat) (a' : AD), vs = [.int .i64 (i : Int)] ∧ i ≤ l.length ∧ a'.Few (N + i) ∧ runS a (loadOps at_ L i) = (a', 0) ∧ Rf p a' F w0 w' (rowP 9 1 gs l.length cs (strV L) :: blk r (krC p t n) 65 :: X), fun vs _ => match vs with | [.int _ i] => (l.length - i).toNat | _ => 0, ⟨0, a, rfl, by omega, hF, rfl, h3⟩, ?_⟩
  rintro vs w4 ⟨i, a', rfl, hi, hF', hr, h4⟩
  have hr2 : (runS a (loadOps at_ L i)).2 = 0 := by rw [hr]
  have hr1 : (runS a (loadOps at_ L i)).1 = a' := by rw [hr]
  refine ⟨_, rfl, dec_t fun hlt => ?_, dec_f fun hge => ?_⟩
  · have hlt : i < l.length := by omega
    obtain ⟨rest, e1, _⟩ := tail a' i hlt
    obtain ⟨bs, rfl, hcs⟩ := T.row1 (i := i) (v := .string (strB (L.getD i []))) h4.under List.mem_cons_self (by
      unfold strV; rw [List.getElem?_map, List.getD_eq_getElem?_getD, List.getElem?_eq_getElem (by omega)]; rfl)
    have hD : ∀ w', (∃ a', Rf p a' F w0 w' (rowP 9 1 (some bs) l.length cs (strV L) :: blk r (krC p t n) 65 :: X)) → w'.cell? (Addr.add ⟨bs, 0, none⟩ (i * 1)) = some (.string (strB (L.getD i []))) := fun w' ⟨a', h'⟩ => by
      obtain ⟨b', hb', hc'⟩ := T.row1 (i := i) (v := .string (strB (L.getD i []))) h'.under List.mem_cons_self (by
        unfold strV; rw [List.getElem?_map, List.getD_eq_getElem?_getD, List.getElem?_eq_getElem (by omega)]; rfl)
      cases hb'; exact hc'
    refine ⟨fun w' => ∃ a', Rf p a' F w0 w' (rowP 9 1 (some bs) l.length cs (strV L) :: blk r (krC p t n) 65 :: X), ⟨a', h4.drew⟩, _, rfl, _, fun w' ⟨a', h'⟩ => h'.under.ld (c := krC p t n) (List.mem_cons_of_mem _ List.mem_cons_self) rfl, _, rfl, by omega, by omega, _, fun w' h' => by rw [Int.toNat_natCast]; exact hD w' h', ?_⟩
    have e41 : IntKind.i64.wrap (IntKind.i64.wrap (at_ + 1) + (i : Int)) = at_ + 1 + (i : Int) := by
      rw [wrap64 (at_ + 1) (by omega) (by omega), wrap64 _ (by omega) (by omega)]
    rw [e41]
    refine (rwrite_r h4.drew (hF'.mono (by omega)) (at_ + 1 + (i : Int)) (strB (L.getD i []))).mono fun e w5 ⟨he5, h5⟩ => ⟨_, he5, ⟨_, h5⟩, bne_t fun hn => ?_, bne_f fun hz => ?_⟩
    · have : runS a (loadOps at_ L l.length ++ [none, some (at_, hd), none]) = (a'.write (at_ + 1 + (i : Int)) (strB (L.getD i [])), a'.put (at_ + 1 + (i : Int)) (strB (L.getD i []))) := by
        rw [e1, runS_app _ _ hr2, hr1]; exact if_pos hn
      rw [this]
      refine ⟨?_, ?_⟩
      · show _ = Value.tuple #[.int .u64 (if a'.put (at_ + 1 + (i : Int)) (strB (L.getD i [])) = 0 then (n : Int) else 0), _]
        rw [if_neg hn]
      · show Rf p _ F w0 w5 (blk r (krC p t (if a'.put (at_ + 1 + (i : Int)) (strB (L.getD i [])) = 0 then (n + 1) % 2 ^ 64 else n)) 65 :: X)
        rw [if_neg hn]; exact h5.dropX
    · have hrn : runS a (loadOps at_ L (i + 1)) = (a'.write (at_ + 1 + (i : Int)) (strB (L.getD i [])), 0) := by
        show runS a (loadOps at_ L i ++ [some (at_ + 1 + (i : Int), strB (L.getD i []))]) = _
        rw [runS_app _ _ hr2, hr1]; exact if_neg (fun hh => hh hz)
      refine ⟨⟨i + 1, _, ?_, by omega, (hF'.write _ _).mono (by omega), hrn, h5⟩, ?_⟩
      · rw [wrap64 _ (by omega) (by omega)]; rfl
      · show ((l.length : Int) - IntKind.i64.wrap ((i : Int) + 1)).toNat < ((l.length : Int) - (i : Int)).toNat
        rw [wrap64 _ (by omega) (by omega)]; omega
  · have hie : i = l.length := by omega
    subst hie
    have hall : runS a (loadOps at_ L l.length ++ [none, some (at_, hd), none]) = runS a' [none, some (at_, hd), none] := by rw [runS_app _ _ hr2, hr1]
    rw [hall]
    have hfin : ∀ (w' : World) (a1 : AD) (x : Int), x ≠ 0 → runS a' [none, some (at_, hd), none] = (a1, x) → Rf p a1 F w0 w' (rowP 9 1 gs l.length cs (strV L) :: blk r (krC p t n) 65 :: X) → (Value.tuple #[.int .u64 0, .int .i64 x] = Value.tuple #[.int .u64 (if (runS a' [none, some (at_, hd), none]).2 = 0 then (n : Int) else 0), .int .i64 (runS a' [none, some (at_, hd), none]).2] ∧ Rf p (runS a' [none, some (at_, hd), none]).1 F w0 w' (blk r (krC p t (if (runS a' [none, some (at_, hd), none]).2 = 0 then (n + 1) % 2 ^ 64 else n)) 65 :: X)) := fun w' a1 x hx he hh => by
      rw [he]
      refine ⟨?_, ?_⟩
      · show _ = Value.tuple #[.int .u64 (if x = 0 then (n : Int) else 0), .int .i64 x]
        rw [if_neg hx]
      · show Rf p a1 F w0 w' (blk r (krC p t (if x = 0 then (n + 1) % 2 ^ 64 else n)) 65 :: X)
        rw [if_neg hx]; exact hh.dropX
    have m2 : ∀ {a1 a2 : A} {L : List A}, a2 ∈ a1 :: a2 :: L := fun {a1 a2 L} => List.mem_cons_of_mem _ List.mem_cons_self
    refine ⟨_, rfl, _, h4.under.ld (c := krC p t n) m2 rfl, ?_⟩
    refine (rflush_r h4 (hF'.mono (by omega))).mono fun e w6 ⟨he6, h6⟩ => ⟨_, he6, bne_t fun hn => hfin w6 a'.flush a'.flush1 hn (if_pos hn) h6, bne_f fun hz => ?_⟩
    have s1 : runS a' [none, some (at_, hd), none] = runS a'.flush [some (at_, hd), none] := if_neg (fun hh => hh hz)
    refine ⟨_, rfl, _, h6.under.ld (c := krC p t n) m2 rfl, ?_⟩
    refine (rwrite_r h6 (hF'.flush.mono (by omega)) at_ hd).mono fun e w7 ⟨he7, h7⟩ => ⟨_, he7, bne_t fun hn => hfin w7 _ _ hn (s1.trans (if_pos hn)) h7, bne_f fun hz2 => ?_⟩
    have s2 : runS a' [none, some (at_, hd), none] = runS (a'.flush.write at_ hd) [none] := s1.trans (if_neg (fun hh => hh hz2))
    refine ⟨_, rfl, _, h7.under.ld (c := krC p t n) m2 rfl, ?_⟩
    refine (rflush_r h7 ((hF'.flush.write _ _).mono (by omega))).mono fun e w8 ⟨he8, h8⟩ => ⟨_, he8, bne_t fun hn => hfin w8 _ _ hn (s2.trans (if_pos hn)) h8, bne_f fun hz3 => ?_⟩
    have s3 : runS a' [none, some (at_, hd), none] = ((a'.flush.write at_ hd).flush, 0) := s2.trans (if_neg (fun hh => hh hz3))
    rw [s3]
    refine ⟨_, rfl, ?_⟩
    rw [addr_add]
    have ew : IntKind.u64.wrap ((n : Int) + 1) = (((n + 1) % 2 ^ 64 : Nat) : Int) := by rw [wrapU64]; omega
    rw [ew]
    exact Rf.st1 (c' := krC p t ((n + 1) % 2 ^ 64)) h8.dropX (show 0 + 2 < 3 by decide) rfl rfl fun w9 h9 => ⟨rfl, h9⟩
end
end Go.Proofs.YtbecjmfcppginaaGreat
end
section
/-! The reference's ring: read, Open. -/
namespace Go.Proofs.YtbecjmfcppginaaGreat
open Go.Sh Go.RowKit
set_option linter.unusedVariables false
set_option linter.unusedSimpArgs false
set_option maxRecDepth 20000
set_option maxHeartbeats 1000000
section
variable {p r t n : Nat} {a : AD} {F : List Nat} {w0 w : World} {X : List A}
theorem Rf.into {y : A} {K : Prop} (h : Rf p a F w0 w (y :: X)) (hK : ∀ Γ, T F w0 w (y :: Γ) → (∀ w' Y, T F w0 w' (Y ++ Γ) → Rf p a F w0 w' (Y ++ X)) → K) : K := by
  obtain ⟨R, hR, hA, hT⟩ := h
  refine hK (refL R ++ X) (hT.swap List.perm_middle) fun w' Y h' => ⟨R, hR, hA, h'.swap ?_⟩
  rw [← List.append_assoc, ← List.append_assoc]
  exact List.perm_append_comm.append_right X
theorem Rf.push1 {t e : TypeId} {i : TypeInfo} {z v : Value} (ht : Tryz.prog.underlying t = some (.slice e)) (hi : Tryz.prog.info? e = some i) (hz : i.zero = some z) (hsize : i.size = 1) (hzs : z.cells.size = 1) (hby : decide (i.bytes ≤ 1000000) = true)
    {g : Option Nat} {n cap : Nat} {xs : List Value} {X : List A} (h : Rf p a F w0 w (rowP e 1 g n cap xs :: X)) (hv : v.oneCell' = true) (hn : n ≤ 1000000) {K : Option Addr → Nat → Nat → World → Prop} (hK : ∀ g' cap' w', Rf p a F w0 w' (rowP e 1 g' (n + 1) cap' (xs ++ [v]) :: X) → K (ptr g') (n + 1) cap' w') :
    Alloc #[v] e w fun k w1 => ∃ (p : Option Addr) (l c : Nat), ∃ w2, (builtin .append #[t, t] t #[false, false] #[.slice (ptr g) n cap, .slice (some ⟨k, 0, none⟩) 1 1]).run Tryz.prog w1 = .ok (.value (.slice p l c)) w2 ∧ K p l c w2 :=
  Rf.into h fun Γ hT hback => push1_t ht hi hz hsize hzs hby hT .head hv hn fun g' cap' w' hT' => hK g' cap' w' (hback w' [_] hT')
theorem Rf.pushN {t e : TypeId} {i : TypeInfo} {z : Value} {c : Array Value} {size : Nat} (ht : Tryz.prog.underlying t = some (.slice e)) (hi : Tryz.prog.info? e = some i) (hz : i.zero = some z) (hsize : i.size = size) (hzs : z.cells.size = size) (hby : decide (i.bytes ≤ 1000000) = true)
    {g : Option Nat} {n cap : Nat} {xs : List Value} {X : List A} (h : Rf p a F w0 w (rowP e size g n cap xs :: X)) (hc : c.size = size) (hv : ∀ u ∈ c.toList, u.oneCell' = true) (hn : n ≤ 1000000) {K : Option Addr → Nat → Nat → World → Prop} (hK : ∀ g' cap' w', Rf p a F w0 w' (rowP e size g' (n + 1) cap' (xs ++ c.toList) :: X) → K (ptr g') (n + 1) cap' w') :
    Alloc c e w fun k w1 => ∃ (p : Option Addr) (l c : Nat), ∃ w2, (builtin .append #[t, t] t #[false, false] #[.slice (ptr g) n cap, .slice (some ⟨k, 0, none⟩) 1 1]).run Tryz.prog w1 = .ok (.value (.slice p l c)) w2 ∧ K p l c w2 :=
  Rf.into h fun Γ hT hback => pushN_t ht hi hz hsize hzs hby hT .head hc hv hn fun g' cap' w' hT' => hK g' cap' w' (hback w' [_] hT')
theorem Rf.nilRow (h : Rf p a F w0 w X) (e : TypeId) (size : Nat) : Rf p a F w0 w (rowP e size none 0 0 [] :: X) :=
  Rf.intoT h fun Γ hT hback => hback w [_] (T.nilRow hT _ _)
theorem Rf.rowN {k : Nat} {e : TypeId} {c : Array Value} {size : Nat} (h : Rf p a F w0 w (blk k c e :: X)) (hc : c = #[]) : Rf p a F w0 w (rowP e size (some k) 0 0 [] :: X) :=
  Rf.into h fun Γ hT hback => hback w [_] (blk_rowN hT hc)
theorem Rf.blkRow {k m : Nat} {e : TypeId} {c : Array Value} {xs : List Value} (h : Rf p a F w0 w (blk k c e :: X)) (hc : c.toList = xs) (hn : c.size = m) (hm : m ≤ 1000000000) : Rf p a F w0 w (rowP e 1 (some k) m m xs :: X) :=
  Rf.into h fun Γ hT hback => hback w [_] (blk_row hT hc hn hm)
theorem Rf.back : ∀ {Y : List A}, Rf p a F w0 w (Y ++ X) → Rf p a F w0 w X
  | [], h => h
  | y :: Y, h => Rf.back (Y := Y) (Rf.dropX h)
theorem read13_spec (h : Rf p a F w0 w X) (hF : a.Few 1000000) (hsz : ∀ i, (a.read i).1.data.toList.length ≤ 1000000) (h1 : 1 ≤ (slotsN (a.safe.length : Int)).toNat) {m : Nat} (hm64 : m < 2 ^ 64) :
    Calls Tryz.prog 49 #[.pointer (some ⟨p, 0, none⟩), .int .u64 (m : Int)] w fun e w' => ∃ g cap, e = .returned (rxV (recF a (slotsN (a.safe.length : Int)).toNat m) g cap) ∧ Rf p a F w0 w' (rowP 115 3 g (recF a (slotsN (a.safe.length : Int)).toNat m).1.2.2.length cap (rpL (recF a (slotsN (a.safe.length : Int)).toNat m).1.2.2) :: X) := by
  obtain ⟨S, hS⟩ : ∃ S : Nat, (slotsN (a.safe.length : Int)).toNat = S := ⟨_, rfl⟩
  have hS99 : S ≤ 99 := by have := h.len64; unfold slotsN at hS; omega
  have hfs := fun (w' : World) (X' : List A) (h' : Rf p a F w0 w' X') => first13_spec h' h1 m
  rw [hS] at hfs h1 ⊢
  refine (revetmentref13_read_calls (R := fun v w' => ∃ g cap, v = rxV (recF a S m) g cap ∧ Rf p a F w0 w' (rowP 115 3 g (recF a S m).1.2.2.length cap (rpL (recF a S m).1.2.2) :: X)) ?_).mono fun e w' ⟨v, he, g, cap, hv, h⟩ => ⟨g, cap, by rw [he, hv], h⟩
  unfold revetmentref13_read
  refine Rf.alloc h fun k4 w1 h1' => ?_
  have h1' : Rf p a F w0 w1 (blk k4 zR 99 :: X) := h1'
  have bad : ∀ (w' : World) (Δ : List A), Rf p a F w0 w' (Δ ++ blk k4 zR 99 :: X) → recF a S m = (zRc, false) →
      St ⟨k4, 0, none⟩ (.int .u64 0) w' fun w2 => St ⟨k4, 1, none⟩ (.int .i64 0) w2 fun w3 => St ⟨k4, 2, none⟩ (.slice none 0 0) w3 fun w4 => ∃ nr2_0 : Int, ∃ nr2_1 : Int, ∃ (pr2_2 : Option Addr) (lr2_2 cr2_2 : Nat), (w4.cell? ⟨k4, 0, none⟩ = some (.int .u64 nr2_0) ∧ w4.cell? ⟨k4, 1, none⟩ = some (.int .i64 nr2_1) ∧ w4.cell? ⟨k4, 2, none⟩ = some (.slice pr2_2 lr2_2 cr2_2)) ∧
        ∃ g cap, (Value.tuple #[.agg #[.int .u64 nr2_0, .int .i64 nr2_1, .slice pr2_2 lr2_2 cr2_2], .bool false]) = rxV (recF a S m) g cap ∧ Rf p a F w0 w4 (rowP 115 3 g (recF a S m).1.2.2.length cap (rpL (recF a S m).1.2.2) :: X) := by
    intro w' Δ hT' hd
    have hT' := Rf.back hT'
    refine Rf.st1 (c' := zR) hT' (show 0 < 3 by decide) rfl rfl fun w2 h2 => Rf.st1 (c' := zR) h2 (show 1 < 3 by decide) rfl rfl fun w3 h3 => Rf.st1 (c' := zR) h3 (show 2 < 3 by decide) rfl rfl fun w4 h4 => ?_
    refine ⟨_, _, _, _, _, ⟨h4.under.ld (c := zR) List.mem_cons_self rfl, h4.under.ld (c := zR) (i := 1) List.mem_cons_self rfl, h4.under.ld (c := zR) (i := 2) List.mem_cons_self rfl⟩, none, 0, ?_, ?_⟩
    · rw [hd]; rfl
    · rw [hd]; exact Rf.nilRow h4.dropX _ _
  refine (hfs w1 _ h1').mono fun e w2 ⟨he2, hx2⟩ => ⟨_, he2, ?_⟩
  have hd2 := h1'.quiet hx2
  obtain ⟨at_, hat, hat0, hat1⟩ : ∃ x : Int, ratF S m = x ∧ 0 ≤ x ∧ x ≤ 50000000 := ⟨_, rfl, by unfold ratF; omega, by have : m % S < S := Nat.mod_lt _ (by omega); unfold ratF; omega⟩
  rw [hat]
  refine (rread_r hd2 hF at_).mono fun e w3 ⟨he3, hx3⟩ => ⟨_, _, he3, ?_⟩
  have hd3 := hd2.quiet hx3
  have hsz1 := hsz at_
  have hrec : recF a S m = if (a.read at_).2 ≠ 0 then (zRc, false)
      else if (decH (a.read at_).1.data.toList).2 ≠ 0 ∨ (decH (a.read at_).1.data.toList).1.1 ≠ m then (zRc, false)
      else if ∃ i, i < (decH (a.read at_).1.data.toList).1.2.2.1.length ∧ (a.read (at_ + 1 + (i : Int))).2 ≠ 0 then (zRc, false)
      else ((decR (a.read at_).1.data.toList (readsF a at_ (decH (a.read at_).1.data.toList).1.2.2.1.length)).1, decide ((decR (a.read at_).1.data.toList (readsF a at_ (decH (a.read at_).1.data.toList).1.2.2.1.length)).2 = 0)) := by
    unfold recF; rw [hat]
  rw [← strB_data (a.read at_).1]
  generalize (a.read at_).1.data.toList = b at hrec hsz1
  generalize (a.read at_).2 = er at hrec
  refine ⟨bne_t fun hne => bad w3 [] hd3 (by rw [hrec]; exact if_pos hne), bne_f fun heq => ?_⟩
  rw [if_neg (fun hn => hn heq)] at hrec
  refine Rf.intoT hd3 fun Γ hT hback => ?_
  have h41 := decH_len b
  have hhd := rhead12_dec hT b hsz1
  generalize decH b = d at hhd hrec h41
  obtain ⟨⟨seq, row, ps, sum⟩, e2⟩ := d
  have h41 : ps.length ≤ 41 := h41
  have hrec : recF a S m = if e2 ≠ 0 ∨ seq ≠ m then (zRc, false) else if ∃ i, i < ps.length ∧ (a.read (at_ + 1 + (i : Int))).2 ≠ 0 then (zRc, false) else ((decR b (readsF a at_ ps.length)).1, decide ((decR b (readsF a at_ ps.length)).2 = 0)) := hrec
  refine hhd.mono fun e w7 ⟨g, cap, he7, hT7⟩ => ⟨_, _, _, _, _, _, _, he7, ?_⟩
  have h7 : Rf p a F w0 w7 (rowP 115 3 g ps.length cap (rpL ps) :: blk k4 zR 99 :: X) := hback w7 [_] hT7
  refine Rf.alloc h7 fun k9 w8 h8 => Rf.st1 (c := zR) (c' := #[.int .u64 (seq : Int), .int .i64 0, .slice none 0 0]) h8 (show 0 < 3 by decide) rfl rfl fun w9 h9 => Rf.st1 (c' := #[.int .u64 (seq : Int), .int .i64 row, .slice none 0 0]) h9 (show 1 < 3 by decide) rfl rfl fun w10 h10 => Rf.st1 (c' := rcC seq row (ptr g) ps.length cap) h10 (show 2 < 3 by decide) rfl rfl fun w11 h11 => ?_
  refine ⟨bne_t fun hne => bad w11 [_, _] h11 (by rw [hrec]; exact if_pos (Or.inl hne)), bne_f fun heq2 => ?_⟩
  refine ⟨_, h11.under.ld (c := rcC seq row (ptr g) ps.length cap) List.mem_cons_self rfl, ?_⟩
  refine ⟨bne_t fun hne => bad w11 [_, _] h11 (by rw [hrec]; exact if_pos (Or.inr (by omega))), bne_f fun heq3 => ?_⟩
  have heq3 : seq = m := by omega
  have heq2 : e2 = 0 := heq2
  rw [if_neg (by omega)] at hrec
  refine Rf.alloc h11 fun k45 w18 h18 => ?_
  have h18 := Rf.rowN (size := 1) h18 rfl
  have m2 : ∀ {a1 a2 : A} {L : List A}, a2 ∈ a1 :: a2 :: L := fun {a1 a2 L} => List.mem_cons_of_mem _ List.mem_cons_self
  refine ⟨fun vs w' => ∃ (i : Nat) (gl : Option Nat) (cl : Nat), vs = [.slice (ptr gl) i cl, .int .i64 (i : Int)] ∧ i ≤ ps.length ∧ (∀ j, j < i → (a.read (at_ + 1 + (j : Int))).2 = 0) ∧ Rf p a F w0 w' (rowP 9 1 gl i cl (strV (readsF a at_ i)) :: blk k9 (rcC seq row (ptr g) ps.length cap) 99 :: rowP 115 3 g ps.length cap (rpL ps) :: blk k4 zR 99 :: X), fun vs _ => match vs with | [_, .int _ i] => (ps.length - i).toNat | _ => 0, ⟨0, some k45, 0, rfl, by omega, fun j hj => by omega, h18⟩, ?_⟩
  rintro vs w19 ⟨i, gl, cl, rfl, hi, hok, h19⟩
  refine ⟨_, _, _, _, rfl, _, _, _, h19.under.ld (c := rcC seq row (ptr g) ps.length cap) (i := 2) m2 rfl, dec_t fun hlt => ?_, dec_f fun hge => ?_⟩
  · have hlt : i < ps.length := by omega
    have e41 : IntKind.i64.wrap (IntKind.i64.wrap (at_ + 1) + (i : Int)) = at_ + 1 + (i : Int) := by
      rw [wrap64 (at_ + 1) (by omega) (by omega), wrap64 _ (by omega) (by omega)]
    rw [e41]
    refine (rread_r h19 hF (at_ + 1 + (i : Int))).mono fun e w20 ⟨he20, hx20⟩ => ⟨_, _, he20, ?_⟩
    have h20 := h19.quiet hx20
    have hnext := readsF_next a at_ i
    refine ⟨bne_t fun hne => bad w20 [_, _, _] h20 (by rw [hrec]; exact if_pos ⟨i, hlt, hne⟩), bne_f fun heq => ?_⟩
    rw [← strB_data (a.read (at_ + 1 + (i : Int))).1]
    refine Rf.push1 (i := Tryz.t9) (z := .string (ByteArray.mk #[])) (by kernel_rfl) (by kernel_rfl) (by kernel_rfl) (by kernel_rfl) (by kernel_rfl) (by kernel_rfl) h20 rfl (by omega) fun g2 cap2 w24 h24 => ⟨⟨i + 1, g2, cap2, ?_, by omega, fun j hj => ?_, ?_⟩, ?_⟩
    · rw [wrap64 _ (by omega) (by omega)]; rfl
    · by_cases hji : j = i
      · rw [hji]; exact heq
      · exact hok j (by omega)
    · have : strV (readsF a at_ (i + 1)) = strV (readsF a at_ i) ++ [.string (strB (a.read (at_ + 1 + (i : Int))).1.data.toList)] := by
        rw [hnext]; unfold strV; rw [List.map_append]; rfl
      rw [this]; exact h24
    · show ((ps.length : Int) - IntKind.i64.wrap ((i : Int) + 1)).toNat < ((ps.length : Int) - (i : Int)).toNat
      rw [wrap64 _ (by omega) (by omega)]; omega
  · have hie : i = ps.length := by omega
    subst hie
    rw [if_neg (fun ⟨j, hj, hx⟩ => hx (hok j hj))] at hrec
    have hlen := readsF_len a at_ ps.length
    generalize readsF a at_ ps.length = L at hrec hlen h19
    have h19' : Rf p a F w0 w19 (rowP 9 1 gl L.length cl (strV L) :: blk k9 (rcC seq row (ptr g) ps.length cap) 99 :: rowP 115 3 g ps.length cap (rpL ps) :: blk k4 zR 99 :: X) := by rw [hlen]; exact h19
    refine Rf.intoT h19' fun Γ hT hback => ?_
    have hrd := rdec12_spec hT b hsz1 (L := L) (gl := gl) (cl := cl) List.mem_cons_self
    rw [hlen] at hrd hback
    generalize decR b L = d at hrd hrec
    obtain ⟨⟨seq', row', ps'⟩, e3⟩ := d
    refine hrd.mono fun e w25 ⟨g', cap', he25, hT25⟩ => ⟨_, _, _, _, _, _, he25, ?_⟩
    have h25 : Rf p a F w0 w25 (rowP 115 3 g' ps'.length cap' (rpL ps') :: rowP 9 1 gl ps.length cl (strV L) :: blk k9 (rcC seq row (ptr g) ps.length cap) 99 :: rowP 115 3 g ps.length cap (rpL ps) :: blk k4 zR 99 :: X) := hback w25 [_] hT25
    have h25 : Rf p a F w0 w25 (blk k4 zR 99 :: rowP 115 3 g' ps'.length cap' (rpL ps') :: X) := by
      have hp := Rf.perm h25 (X' := rowP 9 1 gl ps.length cl (strV L) :: blk k9 (rcC seq row (ptr g) ps.length cap) 99 :: rowP 115 3 g ps.length cap (rpL ps) :: blk k4 zR 99 :: rowP 115 3 g' ps'.length cap' (rpL ps') :: X) ((List.perm_middle (l₁ := [_, _, _, _]) (l₂ := X)).symm)
      exact hp.dropX.dropX.dropX
    refine Rf.alloc h25 fun k15 w26 h26 => Rf.st1 (c := zR) (c' := #[.int .u64 (seq' : Int), .int .i64 0, .slice none 0 0]) h26 (show 0 < 3 by decide) rfl rfl fun w27 h27 => Rf.st1 (c' := #[.int .u64 (seq' : Int), .int .i64 row', .slice none 0 0]) h27 (show 1 < 3 by decide) rfl rfl fun w28 h28 => Rf.st1 (c' := rcC seq' row' (ptr g') ps'.length cap') h28 (show 2 < 3 by decide) rfl rfl fun w29 h29 => ?_
    refine ⟨_, _, _, _, _, ⟨h29.under.ld (c := rcC seq' row' (ptr g') ps'.length cap') List.mem_cons_self rfl, h29.under.ld (c := rcC seq' row' (ptr g') ps'.length cap') (i := 1) List.mem_cons_self rfl, h29.under.ld (c := rcC seq' row' (ptr g') ps'.length cap') (i := 2) List.mem_cons_self rfl⟩, ?_⟩
    refine Rf.st1 (c' := #[.int .u64 (seq' : Int), .int .i64 0, .slice none 0 0]) h29.dropX (show 0 < 3 by decide) rfl rfl fun w30 h30 => Rf.st1 (c' := #[.int .u64 (seq' : Int), .int .i64 row', .slice none 0 0]) h30 (show 1 < 3 by decide) rfl rfl fun w31 h31 => Rf.st1 (c' := rcC seq' row' (ptr g') ps'.length cap') h31 (show 2 < 3 by decide) rfl rfl fun w32 h32 => ?_
    refine ⟨_, _, _, _, _, ⟨h32.under.ld (c := rcC seq' row' (ptr g') ps'.length cap') List.mem_cons_self rfl, h32.under.ld (c := rcC seq' row' (ptr g') ps'.length cap') (i := 1) List.mem_cons_self rfl, h32.under.ld (c := rcC seq' row' (ptr g') ps'.length cap') (i := 2) List.mem_cons_self rfl⟩, g', cap', ?_, ?_⟩
    · rw [hrec]
      show Value.tuple #[_, .bool (e3 == 0)] = Value.tuple #[_, .bool (decide (e3 = 0))]
      have : (e3 == 0) = decide (e3 = 0) := by by_cases h0 : e3 = 0 <;> simp [h0]
      rw [this]; rfl
    · rw [hrec]; exact h32.dropX
def ryOwn (l : List RcX) : List A := l.map fun x => rowP 115 3 x.2.1 x.1.2.2.length x.2.2 (rpL x.1.2.2)
theorem ryOwn_snoc (l : List RcX) (x : RcX) : ryOwn (l ++ [x]) = ryOwn l ++ [rowP 115 3 x.2.1 x.1.2.2.length x.2.2 (rpL x.1.2.2)] := by simp [ryOwn]
theorem open13_ring (h : Rf p a F w0 w X) (hF : a.Few 1000000) (hsz : ∀ i, (a.read i).1.data.toList.length ≤ 64) (hs3 : (a.read 3).2 = 0 → (a.read 3).1.data.toList.length = 64) :
    Calls Tryz.prog 13 #[.pointer (some ⟨p, 0, none⟩)] w fun e w' =>
      ((openF a).2 ≠ 0 ∧ e = .returned (.tuple #[.pointer none, .slice none 0 0, .int .i64 (openF a).2]) ∧ Rf p a F w0 w' X) ∨
      ((openF a).2 = 0 ∧ 1 ≤ (slotsN (a.safe.length : Int)).toNat ∧ ∃ r g cap lx, e = .returned (.tuple #[.pointer (some ⟨r, 0, none⟩), .slice (ptr g) (lx : List RcX).length cap, .int .i64 0]) ∧ lx.map (·.1) = recsF a (slotsN (a.safe.length : Int)).toNat (slotsN (a.safe.length : Int)).toNat (((openF a).1 + 1) % 2 ^ 64) ∧
        Rf p a F w0 w' (blk r (krC p (openF a).1 (((openF a).1 + 1 + lx.length) % 2 ^ 64)) 65 :: rowP 99 3 g lx.length cap (rxL lx) :: (ryOwn lx ++ X))) := by
  let R : Value → World → Prop := fun v w' => ((openF a).2 ≠ 0 ∧ v = (.tuple #[.pointer none, .slice none 0 0, .int .i64 (openF a).2]) ∧ Rf p a F w0 w' X) ∨
      ((openF a).2 = 0 ∧ 1 ≤ (slotsN (a.safe.length : Int)).toNat ∧ ∃ r g cap lx, v = (.tuple #[.pointer (some ⟨r, 0, none⟩), .slice (ptr g) (lx : List RcX).length cap, .int .i64 0]) ∧ lx.map (·.1) = recsF a (slotsN (a.safe.length : Int)).toNat (slotsN (a.safe.length : Int)).toNat (((openF a).1 + 1) % 2 ^ 64) ∧
        Rf p a F w0 w' (blk r (krC p (openF a).1 (((openF a).1 + 1 + lx.length) % 2 ^ 64)) 65 :: rowP 99 3 g lx.length cap (rxL lx) :: (ryOwn lx ++ X)))
  refine (revetmentref13_Open_calls (R := R) ?_).mono fun e w' ⟨v, he, hv⟩ => ?_
  · have bad : ∀ (w' : World) (Δ : List A) (x : Int), Rf p a F w0 w' (Δ ++ X) → x ≠ 0 → (openF a).2 = x → R (.tuple #[.pointer none, .slice none 0 0, .int .i64 x]) w' := fun w' Δ x hh hx he => .inl ⟨by rw [he]; exact hx, by rw [he], Rf.back hh⟩
    have hl64 := h.len64
    obtain ⟨S, hS⟩ : ∃ S : Nat, slotsN (a.safe.length : Int) = (S : Int) := ⟨(slotsN (a.safe.length : Int)).toNat, by unfold slotsN; omega⟩
    have hS99 : S ≤ 99 := by unfold slotsN at hS; omega
    have hof : openF a = if (a.read 3).2 ≠ 0 then (0, (a.read 3).2)
      else if (openB (a.read 3).1.data.toList).2 = false ∨ (S : Int) = 0 then (0, 200)
      else if markB (leN (((openB (a.read 3).1.data.toList).1.drop 4).take 8)) ≠ (a.read 3).1.data.toList then (0, 200)
      else (leN (((openB (a.read 3).1.data.toList).1.drop 4).take 8), 0) := by unfold openF; rw [hS]
    have hgood : ∀ (v : Value) (w' : World) (t : Nat), openF a = (t, 0) → 1 ≤ S → (∃ r g cap lx, v = (.tuple #[.pointer (some ⟨r, 0, none⟩), .slice (ptr g) (lx : List RcX).length cap, .int .i64 0]) ∧ lx.map (·.1) = recsF a S S ((t + 1) % 2 ^ 64) ∧ Rf p a F w0 w' (blk r (krC p t ((t + 1 + lx.length) % 2 ^ 64)) 65 :: rowP 99 3 g lx.length cap (rxL lx) :: (ryOwn lx ++ X))) → R v w' := by
      intro v w' t ht h1 hv
      refine .inr ⟨by rw [ht], by rw [hS]; omega, ?_⟩
      rw [ht, hS]
      exact hv
    have hslots := fun (w' : World) => slots13_spec (a.safe.length : Int) (by omega) (by omega) w'
    have hread := fun (w' : World) (X' : List A) (h' : Rf p a F w0 w' X') (hh : 1 ≤ S) (m : Nat) (hm : m < 2 ^ 64) => read13_spec h' hF (fun i => Nat.le_trans (hsz i) (by decide)) (by rw [hS]; exact hh) hm
    rw [hS] at hslots hread
    rw [Int.toNat_natCast] at hread
    clear_value R
    unfold revetmentref13_Open
    refine (rread_r h hF 3).mono fun e w1 ⟨he1, hx1⟩ => ⟨_, _, he1, ?_⟩
    have h1 := h.quiet hx1
    rw [← strB_data (a.read 3).1]
    generalize (a.read 3).1.data.toList = b at hof hs3
    generalize (a.read 3).2 = er at hof hs3
    refine ⟨bne_t fun hne => bad w1 [] er h1 hne (by rw [hof, if_pos hne]), bne_f fun heq => ?_⟩
    rw [if_neg (fun hn => hn heq)] at hof
    have h64 := hs3 heq
    refine (ropen_spec (strB b) (by rw [strB_size]; omega) w1).mono fun e w2 ⟨he2, hx2⟩ => ⟨_, _, he2, ?_⟩
    have eb : (strB b).data.toList = b := rfl
    rw [eb]
    have h2 := h1.quiet hx2
    refine ⟨not_t fun ho => bad w2 [] 200 h2 (by decide) (by rw [hof, if_pos (Or.inl ho)]), not_f fun ho => ?_⟩
    obtain ⟨g2, c2, hc2⟩ := h2.len
    refine ⟨_, rfl, _, _, _, hc2, ?_⟩
    refine (hslots w2).mono fun e w3 ⟨he3, hx3⟩ => ⟨_, he3, ?_⟩
    have h3 := h2.quiet hx3
    refine ⟨beq_t fun h0 => bad w3 [] 200 h3 (by decide) (by rw [hof, if_pos (Or.inr h0)]), beq_f fun hn0 => ?_⟩
    rw [if_neg (by rw [ho]; simp; omega)] at hof
    rw [openB_take h64 ho] at hof ⊢
    have hl60 : (b.take 60).length = 60 := by rw [List.length_take]; omega
    have s1 := slice_mid (P := Tryz.prog) (t := 9) (k := .i64) (k' := .i64) (s := strB (b.take 60)) (lo := 4) (hi := 12) (w := w3) (by kernel_rfl) (by omega) (by omega) (by rw [strB_size, hl60]; omega)
    rw [strB_extract] at s1
    have e1 : (((b.take 60).drop (4 : Int).toNat).take ((12 : Int).toNat - (4 : Int).toNat)) = ((b.take 60).drop 4).take 8 := rfl
    rw [e1] at s1
    refine ⟨_, w3, s1, ?_⟩
    have hl8 : (((b.take 60).drop 4).take 8).length = 8 := by rw [List.length_take, List.length_drop]; omega
    generalize ((b.take 60).drop 4).take 8 = l8 at hof hl8
    have ht64 : leN l8 < 2 ^ 64 := by
      have := leN_lt l8
      rw [hl8] at this
      have q8 : (256 : Nat) ^ 8 = 2 ^ 64 := by decide
      omega
    refine Rf.alloc h3 fun k42 w5 h5 => ?_
    have h5 : Rf p a F w0 w5 (rowP 3 1 (some k42) 1 1 (ints [8]) :: X) := Rf.blkRow h5 rfl rfl (by decide)
    refine Rf.intoT h5 fun Γ hT hback => ?_
    refine (rdecode_spec (ws := [8]) rwid8 (s := strB l8) (by rw [strB_size, hl8]; rfl) hT (g2 := some k42) (n2 := 1) (c2 := 1) rfl List.mem_cons_self).mono fun e w6 ⟨gd, cd, he6, hT6⟩ => ⟨_, _, _, _, he6, ?_⟩
    have ed : decP (strB l8).data.toList [8] = [leN l8] := by
      show [leN (l8.take 8)] = _
      rw [List.take_of_length_le (by omega)]
    rw [ed] at hT6
    have h6 := hback w6 [_] hT6
    generalize leN l8 = t at hof ht64 hT6 h6
    have h6 : Rf p a F w0 w6 (rowP 57 1 gd 1 cd (u64s [t]) :: rowP 3 1 (some k42) 1 1 (ints [8]) :: X) := h6
    obtain ⟨bd, rfl⟩ := rowP.pos (h6.under.says List.mem_cons_self) (by decide)
    refine ⟨_, rfl, by omega, by decide, _, rowP.cell (k := 0) (h6.under.says List.mem_cons_self) rfl, ?_⟩
    refine (mark13_spec ht64 w6).mono fun e w7 ⟨he7, hx7⟩ => ⟨_, he7, ?_⟩
    have h7 := h6.quiet hx7
    rw [strB_toList, strB_toList]
    have hbm : ∀ {q : Bool}, (b == markB t) = q → (markB t ≠ b ↔ q = false) := fun {q} h => by
      rw [← h]
      constructor
      · intro hn; exact beq_eq_false_iff_ne.2 (fun e => hn e.symm)
      · intro hn e; rw [e] at hn; simp at hn
    refine ⟨not_t fun hm => bad w7 [_, _] 200 h7 (by decide) (by rw [hof, if_pos ((hbm rfl).2 hm)]), not_f fun hm => ?_⟩
    rw [if_neg (fun hn => by have := (hbm hm).1 hn; cases this)] at hof
    have h7d := h7.drew
    have cellU : ∀ {w' : World} {Δ : List A}, Rf p a F w0 w' Δ → rowP 57 1 (some bd) 1 cd (u64s [t]) ∈ Δ → w'.cell? ⟨bd, 0, none⟩ = some (.int .u64 (t : Int)) := fun hh hm => rowP.cell (k := 0) (hh.under.says hm) rfl
    refine ⟨fun w' => ∃ Δ, rowP 57 1 (some bd) 1 cd (u64s [t]) ∈ Δ ∧ Rf p a F w0 w' Δ, ⟨_, List.mem_cons_self, h7d⟩, _, rfl, by omega, by decide, (t : Int), fun w' ⟨Δ, hm', h'⟩ => cellU h' hm', _, rfl, by omega, by decide, (t : Int), fun w' ⟨Δ, hm', h'⟩ => cellU h' hm', ?_⟩
    have ew : IntKind.u64.wrap ((t : Int) + 1) = (((t + 1) % 2 ^ 64 : Nat) : Int) := by rw [wrapU64]; omega
    rw [ew]
    refine Rf.alloc h7d fun r w8 h8 => ⟨⟨_, List.mem_cons_of_mem _ List.mem_cons_self, h8⟩, ?_⟩
    have h8 : Rf p a F w0 w8 (blk r (krC p t ((t + 1) % 2 ^ 64)) 65 :: rowP 57 1 (some bd) 1 cd (u64s [t]) :: rowP 3 1 (some k42) 1 1 (ints [8]) :: X) := h8
    refine Rf.alloc h8 fun k62 w9 h9 => ?_
    have h9 := Rf.rowN (size := 3) h9 rfl
    have h9 : Rf p a F w0 w9 (rowP 99 3 (some k62) 0 0 [] :: blk r (krC p t ((t + 1) % 2 ^ 64)) 65 :: X) := by
      have hp := Rf.perm h9 (X' := rowP 57 1 (some bd) 1 cd (u64s [t]) :: rowP 3 1 (some k42) 1 1 (ints [8]) :: rowP 99 3 (some k62) 0 0 [] :: blk r (krC p t ((t + 1) % 2 ^ 64)) 65 :: X) (List.perm_append_comm_assoc [_, _] [_, _] X)
      exact hp.dropX.dropX
    refine ⟨fun vs w' => ∃ (lx : List RcX) (g : Option Nat) (cap : Nat), vs = [.slice (ptr g) lx.length cap] ∧ lx.length ≤ S ∧ recsF a S S ((t + 1) % 2 ^ 64) = lx.map (·.1) ++ recsF a S (S - lx.length) ((t + 1 + lx.length) % 2 ^ 64) ∧ Rf p a F w0 w' (rowP 99 3 g lx.length cap (rxL lx) :: blk r (krC p t ((t + 1 + lx.length) % 2 ^ 64)) 65 :: (ryOwn lx ++ X)), fun vs _ => match vs with | [.slice _ l _] => S - l | _ => 0, ⟨[], some k62, 0, rfl, Nat.zero_le _, rfl, h9⟩, ?_⟩
    rintro vs w10 ⟨lx, g, cap, rfl, hlx, hrs, h10⟩
    have hfin : ∀ (w' : World), recsF a S (S - lx.length) ((t + 1 + lx.length) % 2 ^ 64) = [] → Rf p a F w0 w' (rowP 99 3 g lx.length cap (rxL lx) :: blk r (krC p t ((t + 1 + lx.length) % 2 ^ 64)) 65 :: (ryOwn lx ++ X)) → R (.tuple #[.pointer (some ⟨r, 0, none⟩), .slice (ptr g) lx.length cap, .int .i64 0]) w' := by
      intro w' he hh
      exact hgood _ _ t hof (by omega) ⟨r, g, cap, lx, rfl, by rw [hrs, he, List.append_nil], Rf.perm hh (.swap _ _ _)⟩
    obtain ⟨g10, c10, hc10⟩ := h10.len
    refine ⟨_, _, _, rfl, _, rfl, _, _, _, hc10, ?_⟩
    refine (hslots w10).mono fun e w11 ⟨he11, hx11⟩ => ⟨_, he11, ?_⟩
    have h11 := h10.quiet hx11
    refine ⟨dec_t fun hlt => ?_, dec_f fun hge => ?_⟩
    · have hlt : lx.length < S := by omega
      refine ⟨_, rfl, _, by rw [addr_add]; exact h11.under.ld (c := krC p t ((t + 1 + lx.length) % 2 ^ 64)) (List.mem_cons_of_mem _ List.mem_cons_self) rfl, ?_⟩
      have hmlt : (t + 1 + lx.length) % 2 ^ 64 < 2 ^ 64 := Nat.mod_lt _ (by decide)
      have hrec := hread w11 _ h11 (by omega) _ hmlt
      have hone : recsF a S (S - lx.length) ((t + 1 + lx.length) % 2 ^ 64) = if (recF a S ((t + 1 + lx.length) % 2 ^ 64)).2 then (recF a S ((t + 1 + lx.length) % 2 ^ 64)).1 :: recsF a S (S - (lx.length + 1)) ((t + 1 + (lx.length + 1)) % 2 ^ 64) else [] := by
        obtain ⟨k, hk⟩ : ∃ k, S - lx.length = k + 1 := ⟨S - lx.length - 1, by omega⟩
        rw [hk, show S - (lx.length + 1) = k by omega, show (t + 1 + (lx.length + 1)) % 2 ^ 64 = ((t + 1 + lx.length) % 2 ^ 64 + 1) % 2 ^ 64 by omega]
        rfl
      generalize recF a S ((t + 1 + lx.length) % 2 ^ 64) = d at hrec hone
      obtain ⟨⟨sq, row, ps⟩, ok⟩ := d
      refine hrec.mono fun e w12 ⟨gp, cp, he12, h12⟩ => ⟨_, _, _, _, _, _, he12, ?_⟩
      have h12 : Rf p a F w0 w12 (rowP 115 3 gp ps.length cp (rpL ps) :: rowP 99 3 g lx.length cap (rxL lx) :: blk r (krC p t ((t + 1 + lx.length) % 2 ^ 64)) 65 :: (ryOwn lx ++ X)) := h12
      refine Rf.alloc h12 fun k13 w15 h15 => Rf.st1 (c := zR) (c' := #[.int .u64 (sq : Int), .int .i64 0, .slice none 0 0]) h15 (show 0 < 3 by decide) rfl rfl fun w16 h16 => Rf.st1 (c' := #[.int .u64 (sq : Int), .int .i64 row, .slice none 0 0]) h16 (show 1 < 3 by decide) rfl rfl fun w17 h17 => Rf.st1 (c' := rcC sq row (ptr gp) ps.length cp) h17 (show 2 < 3 by decide) rfl rfl fun w18 h18 => ?_
      refine ⟨not_t fun ho => hfin w18 (by rw [hone]; exact if_neg (by rw [show ok = false from ho]; simp)) h18.dropX.dropX, not_f fun ho => ?_⟩
      have ho : ok = true := ho
      subst ho
      have hone : recsF a S (S - lx.length) ((t + 1 + lx.length) % 2 ^ 64) = (sq, row, ps) :: recsF a S (S - (lx.length + 1)) ((t + 1 + (lx.length + 1)) % 2 ^ 64) := hone
      refine ⟨_, _, _, _, _, ⟨h18.under.ld (c := rcC sq row (ptr gp) ps.length cp) List.mem_cons_self rfl, h18.under.ld (c := rcC sq row (ptr gp) ps.length cp) (i := 1) List.mem_cons_self rfl, h18.under.ld (c := rcC sq row (ptr gp) ps.length cp) (i := 2) List.mem_cons_self rfl⟩, ?_⟩
      have h18p := Rf.perm h18.dropX (X' := rowP 99 3 g lx.length cap (rxL lx) :: rowP 115 3 gp ps.length cp (rpL ps) :: blk r (krC p t ((t + 1 + lx.length) % 2 ^ 64)) 65 :: (ryOwn lx ++ X)) (.swap _ _ _)
      refine Rf.pushN (t := 39) (i := Tryz.t99) (z := .agg #[.int .u64 0, .int .i64 0, .slice none 0 0]) (c := rcC sq row (ptr gp) ps.length cp) (size := 3) (by kernel_rfl) (by kernel_rfl) (by kernel_rfl) (by kernel_rfl) (by kernel_rfl) (by kernel_rfl) h18p rfl (fun u hu => ?_) (by omega) fun g' cap' w20 h20 => ?_
      · have hu : u ∈ [Value.int .u64 (sq : Int), .int .i64 row, .slice (ptr gp) ps.length cp] := hu
        simp only [List.mem_cons, List.not_mem_nil, or_false] at hu
        rcases hu with rfl | rfl | rfl <;> rfl
      · have hsn : rxL lx ++ (rcC sq row (ptr gp) ps.length cp).toList = rxL (lx ++ [((sq, row, ps), gp, cp)]) := rxL_snoc lx ((sq, row, ps), gp, cp)
        rw [hsn] at h20
        refine ⟨_, rfl, _, by rw [addr_add]; exact h20.under.ld (c := krC p t ((t + 1 + lx.length) % 2 ^ 64)) (List.mem_cons_of_mem _ (List.mem_cons_of_mem _ List.mem_cons_self)) rfl, _, rfl, ?_⟩
        have h20p := Rf.perm h20 (X' := blk r (krC p t ((t + 1 + lx.length) % 2 ^ 64)) 65 :: rowP 99 3 g' (lx.length + 1) cap' (rxL (lx ++ [((sq, row, ps), gp, cp)])) :: rowP 115 3 gp ps.length cp (rpL ps) :: (ryOwn lx ++ X)) (List.perm_middle (l₁ := [_, _]) (l₂ := ryOwn lx ++ X))
        rw [addr_add]
        have ew : IntKind.u64.wrap ((((t + 1 + lx.length) % 2 ^ 64 : Nat) : Int) + 1) = (((t + 1 + (lx.length + 1)) % 2 ^ 64 : Nat) : Int) := by rw [wrapU64]; omega
        rw [ew]
        refine Rf.st1 (c' := krC p t ((t + 1 + (lx.length + 1)) % 2 ^ 64)) h20p (show 0 + 2 < 3 by decide) rfl rfl fun w21 h21 => ?_
        have hl1 : (lx ++ [((sq, row, ps), gp, cp)]).length = lx.length + 1 := by rw [List.length_append]; rfl
        refine ⟨⟨lx ++ [((sq, row, ps), gp, cp)], g', cap', by rw [hl1], by rw [hl1]; omega, by rw [hrs, hone, hl1, List.map_append, List.append_assoc]; rfl, ?_⟩, ?_⟩
        · rw [hl1, ryOwn_snoc]
          refine Rf.perm h21 ((List.Perm.swap _ _ _).trans (List.Perm.cons _ (List.Perm.cons _ ?_)))
          rw [List.append_assoc]
          exact List.perm_middle.symm
        · show S - (lx.length + 1) < S - lx.length
          omega
    · exact hfin w11 (by rw [show S - lx.length = 0 by omega]; rfl) h11
  · rcases hv with ⟨h1, h2, h3⟩ | ⟨h1, h2, r, g, cap, lx, h3, h4⟩
    · exact .inl ⟨h1, by rw [he, h2], h3⟩
    · exact .inr ⟨h1, h2, r, g, cap, lx, by rw [he, h3], h4⟩
end
end Go.Proofs.YtbecjmfcppginaaGreat
end
section
/-! law13: the program's drive and the reference's, side by side. -/
namespace Go.Proofs.YtbecjmfcppginaaGreat
open Go.Sh Go.RowKit
set_option linter.unusedVariables false
set_option linter.unusedSimpArgs false
set_option maxRecDepth 20000
set_option maxHeartbeats 1000000
/-- both drives; each may stand by itself -/
def Duo (p q : Nat) (a b : AD) (F : List Nat) (w0 w : World) (X : List A) : Prop := ∃ D R, D.p = p ∧ R.p = q ∧ Abs D a ∧ RAbs R b ∧ T F w0 w (X ++ (refL R ++ drvL D))
section
variable {p q : Nat} {a b : AD} {F : List Nat} {w0 w : World} {X : List A}
theorem Duo.d {K : Prop} (h : Duo p q a b F w0 w X) (hK : ∀ Z, Dr p a F w0 w (X ++ Z) → (∀ a' w' X', Dr p a' F w0 w' (X' ++ Z) → Duo p q a' b F w0 w' X') → K) : K := by
  obtain ⟨D, R, h1, h2, h3, h4, h5⟩ := h
  refine hK (refL R) ⟨D, h1, h3, by rw [List.append_assoc]; exact h5⟩ fun a' w' X' ⟨D', g1, g3, g5⟩ => ⟨D', R, g1, h2, g3, h4, by rw [List.append_assoc] at g5; exact g5⟩
theorem Duo.r {K : Prop} (h : Duo p q a b F w0 w X) (hK : ∀ Z, Rf q b F w0 w (X ++ Z) → (∀ b' w' X', Rf q b' F w0 w' (X' ++ Z) → Duo p q a b' F w0 w' X') → K) : K := by
  obtain ⟨D, R, h1, h2, h3, h4, h5⟩ := h
  have pm : ∀ (X : List A) (R : RL), (X ++ (refL R ++ drvL D)).Perm (refL R ++ (X ++ drvL D)) := fun X R => by
    rw [← List.append_assoc, ← List.append_assoc]
    exact List.perm_append_comm.append_right _
  exact hK (drvL D) ⟨R, h2, h4, h5.swap (pm X R)⟩ fun b' w' X' ⟨R', g2, g4, g5⟩ => ⟨D, R', h1, g2, h3, g4, g5.swap (pm X' R').symm⟩
theorem Duo.quiet {w' : World} (h : Duo p q a b F w0 w X) (he : Ext w w') : Duo p q a b F w0 w' X := by
  obtain ⟨D, R, h1, h2, h3, h4, h5⟩ := h
  exact ⟨D, R, h1, h2, h3, h4, h5.quiet he⟩
theorem Duo.drew (h : Duo p q a b F w0 w X) : Duo p q a b F w0 w.drew X := by
  obtain ⟨D, R, h1, h2, h3, h4, h5⟩ := h
  exact ⟨D, R, h1, h2, h3, h4, h5.drew⟩
theorem Duo.under (h : Duo p q a b F w0 w X) : T F w0 w X := by
  obtain ⟨D, R, h1, h2, h3, h4, h5⟩ := h
  exact T.dropAll (h5.swap List.perm_append_comm)
theorem Duo.ext (h : Duo p q a b [] w0 w X) : Ext w0 w := h.under.chg.ext
theorem Duo.perm {Y : List A} (h : Duo p q a b F w0 w X) (hp : X.Perm Y) : Duo p q a b F w0 w Y := by
  obtain ⟨D, R, h1, h2, h3, h4, h5⟩ := h
  exact ⟨D, R, h1, h2, h3, h4, h5.swap (hp.append_right _)⟩
theorem Duo.dropX {y : A} (h : Duo p q a b F w0 w (y :: X)) : Duo p q a b F w0 w X := by
  obtain ⟨D, R, h1, h2, h3, h4, h5⟩ := h
  exact ⟨D, R, h1, h2, h3, h4, T.drop h5⟩
theorem Duo.back : ∀ {Y : List A}, Duo p q a b F w0 w (Y ++ X) → Duo p q a b F w0 w X
  | [], h => h
  | y :: Y, h => Duo.back (Y := Y) h.dropX
theorem Duo.alloc (h : Duo p q a b F w0 w X) {c : Array Value} {t : TypeId} {K : Nat → World → Prop} (hK : ∀ k w', Duo p q a b F w0 w' (blk k c t :: X) → K k w') : Alloc c t w K := by
  obtain ⟨D, R, h1, h2, h3, h4, h5⟩ := h
  exact Alloc.t h5 fun k w' hT => hK k w' ⟨D, R, h1, h2, h3, h4, hT⟩
theorem Duo.st1 {k i : Nat} {c c' : Array Value} {t : TypeId} {v : Value} {K : World → Prop} (h : Duo p q a b F w0 w (blk k c t :: X)) (hi : i < c.size) (hc : c.setIfInBounds i v = c') (hv : scalar v = true) (hK : ∀ w', Duo p q a b F w0 w' (blk k c' t :: X) → K w') : St ⟨k, i, none⟩ v w K := by
  obtain ⟨D, R, h1, h2, h3, h4, h5⟩ := h
  exact St.t h5 .head hi hc hv fun w' hT => hK w' ⟨D, R, h1, h2, h3, h4, hT⟩
theorem Duo.intoT {K : Prop} (h : Duo p q a b F w0 w X) (hK : ∀ Γ, T F w0 w (X ++ Γ) → (∀ w' Y, T F w0 w' (Y ++ (X ++ Γ)) → Duo p q a b F w0 w' (Y ++ X)) → K) : K := by
  obtain ⟨D, R, h1, h2, h3, h4, h5⟩ := h
  exact hK _ h5 fun w' Y h' => ⟨D, R, h1, h2, h3, h4, by rw [List.append_assoc]; exact h'⟩
theorem Duo.size64 (h : Duo p q a b F w0 w X) (i : Int) : (a.read i).1.data.toList.length ≤ 64 := Duo.d h fun Z hd _ => hd.size_of i
theorem Duo.is64 (h : Duo p q a b F w0 w X) {i : Int} (h0 : (a.read i).2 = 0) : (a.read i).1.data.toList.length = 64 := Duo.d h fun Z hd _ => hd.read_64 h0
theorem Duo.len (h : Duo p q a b F w0 w X) : b.safe.length ≤ 4096 := Duo.r h fun Z hr _ => hr.len64
theorem duo_new {n : Nat} (hT : T F w0 w X) (hn : 1 ≤ n ∧ n ≤ 4096) : Calls Tryz.prog 6 #[.int .i64 n] w fun e w1 => ∃ p, e = .returned (.pointer (some ⟨p, 0, none⟩)) ∧ Calls Tryz.prog 7 #[.int .i64 n] w1 fun e2 w2 => ∃ q, e2 = .returned (.pointer (some ⟨q, 0, none⟩)) ∧ Duo p q (AD.new n) (AD.new n) F w0 w2 X := by
  refine (new_a n hT (by omega)).mono fun e w1 ⟨p, he, hd⟩ => ⟨p, he, ?_⟩
  obtain ⟨D, h1, h2, h3⟩ := hd
  refine (rnew_r n h3 hn).mono fun e2 w2 ⟨q, he2, hr⟩ => ⟨q, he2, ?_⟩
  obtain ⟨R, g1, g2, g3⟩ := hr
  refine ⟨D, R, h1, g1, h2, g2, g3.swap ?_⟩
  rw [← List.append_assoc, ← List.append_assoc]
  exact List.perm_append_comm.append_right _
theorem duo_format (h : Duo p q a a F w0 w X) {N : Nat} (hF : a.Few N) (hN : N + 200 ≤ 999999) : Calls Tryz.prog 8 #[.pointer (some ⟨p, 0, none⟩)] w fun e w1 => e = .returned (.int .i64 (formatF a).2) ∧ Calls Tryz.prog 9 #[.pointer (some ⟨q, 0, none⟩)] w1 fun e2 w2 => e2 = .returned (.int .i64 (formatF a).2) ∧ Duo p q (formatF a).1 (formatF a).1 F w0 w2 X := by
  have hl := h.len
  refine Duo.d h fun Z hd hb => (format_spec hd hF (by omega) hl).mono fun e w1 ⟨he, h1⟩ => ⟨he, ?_⟩
  exact Duo.r (hb _ w1 X h1) fun Z hr hb2 => (format13_spec hr hF hN).mono fun e2 w2 ⟨he2, h2⟩ => ⟨he2, hb2 _ w2 X h2⟩
end
theorem recF_len (a : AD) (S n : Nat) : (recF a S n).1.2.2.length ≤ 41 := by
  unfold recF
  split
  · exact Nat.zero_le _
  · split
    · exact Nat.zero_le _
    · split
      · exact Nat.zero_le _
      · unfold decR
        split
        · exact Nat.zero_le _
        · split
          · exact Nat.zero_le _
          · split
            · exact Nat.zero_le _
            · split
              · exact Nat.zero_le _
              · show (withD _ _).length ≤ 41
                rw [withD_len]; exact decH_len _
theorem recsF_len (a : AD) (S : Nat) : ∀ (k n : Nat), ∀ x ∈ recsF a S k n, x.2.2.length ≤ 41
  | 0, n, x, hx => by simp [recsF] at hx
  | k + 1, n, x, hx => by
    unfold recsF at hx
    split at hx
    · rcases List.mem_cons.1 hx with rfl | hx
      · exact recF_len a S n
      · exact recsF_len a S k _ x hx
    · simp at hx
theorem openF_lt (a : AD) : (openF a).1 < 2 ^ 64 := by
  unfold openF
  split
  · show (0 : Nat) < _; decide
  · split
    · show (0 : Nat) < _; decide
    · split
      · show (0 : Nat) < _; decide
      · show leN _ < _
        refine Nat.lt_of_lt_of_le (leN_lt _) ?_
        have q8 : (256 : Nat) ^ 8 = 2 ^ 64 := by decide
        rw [← q8]
        exact Nat.pow_le_pow_right (by decide) (by rw [List.length_take]; omega)
theorem runS_few : ∀ (l : List Op) {a : AD} {N : Nat}, a.Few N → (runS a l).1.Few (N + l.length)
  | [], a, N, h => h
  | some x :: l, a, N, h => by
    unfold runS
    split
    · exact (h.write x.1 x.2).mono (by rw [List.length_cons]; omega)
    · exact (runS_few l (h.write x.1 x.2)).mono (by rw [List.length_cons]; omega)
  | none :: l, a, N, h => by
    unfold runS
    split
    · exact h.flush.mono (by rw [List.length_cons]; omega)
    · exact (runS_few l h.flush).mono (by rw [List.length_cons]; omega)
theorem slotOps_len (n : Nat) : (slotOps n).length = n := by unfold slotOps; rw [List.length_map, List.length_range]
theorem formatF_few {a : AD} {N : Nat} (h : a.Few N) (hl : a.safe.length ≤ 4096) : (formatF a).1.Few (N + 200) := by
  unfold formatF
  split
  · exact h.mono (by omega)
  · refine (runS_few _ h).mono ?_
    unfold fmtOps
    rw [List.length_append, slotOps_len]
    have : slotsN (a.safe.length : Int) ≤ 99 := by unfold slotsN; omega
    show N + ((slotsN (a.safe.length : Int)).toNat + 2) ≤ _
    omega
theorem formatF_len (a : AD) : (formatF a).1.safe.length = a.safe.length := by
  unfold formatF
  split
  · rfl
  · exact runS_len _ _
/-- Append, whatever comes of it -/
def apF (a : AD) (S t n : Nat) (row : Int) (l : List RP) : AD × Nat × Int × Int :=
  if leftF S t n < 1 then (a, n, 0, 130) else if PlacedR row l ∧ LoadedR l then ((runS a (appOps S n row l)).1, (if (runS a (appOps S n row l)).2 = 0 then (n + 1) % 2 ^ 64 else n), (if (runS a (appOps S n row l)).2 = 0 then (n : Int) else 0), (runS a (appOps S n row l)).2) else (a, n, 0, 1)
theorem apF_len (a : AD) (S t n : Nat) (row : Int) (l : List RP) : (apF a S t n row l).1.safe.length = a.safe.length := by
  unfold apF
  split
  · rfl
  · split
    · exact runS_len _ _
    · rfl
theorem loadOps_len (at_ : Int) (L : List (List UInt8)) : ∀ k, (loadOps at_ L k).length = k
  | 0 => rfl
  | k + 1 => by
    show (loadOps at_ L k ++ [_]).length = _
    rw [List.length_append, loadOps_len at_ L k]; rfl
theorem apF_few {a : AD} {N : Nat} (h : a.Few N) (S t n : Nat) (row : Int) (l : List RP) : (apF a S t n row l).1.Few (N + 200) := by
  unfold apF
  split
  · exact h.mono (by omega)
  · split
    · rename_i hp
      refine (runS_few _ h).mono ?_
      unfold appOps
      have := hp.1.2.2.2.1
      rw [List.length_append, loadOps_len]
      show N + (l.length + 3) ≤ _
      omega
    · exact h.mono (by omega)
theorem apF_lt {a : AD} {S t n : Nat} (h : n < 2 ^ 64) (row : Int) (l : List RP) : (apF a S t n row l).2.1 < 2 ^ 64 := by
  unfold apF
  split
  · exact h
  · split
    · show (if _ then _ else _) < _
      split
      · exact Nat.mod_lt _ (by decide)
      · exact h
    · exact h
theorem trimF_len (a : AD) (t n m : Nat) : (trimF a t n m).1.safe.length = a.safe.length := by
  unfold trimF
  split
  · rfl
  · exact runS_len _ _
theorem trimF_few {a : AD} {N : Nat} (h : a.Few N) (t n m : Nat) : (trimF a t n m).1.Few (N + 200) := by
  unfold trimF
  split
  · exact h.mono (by omega)
  · exact (runS_few _ h).mono (by show N + 2 ≤ _; omega)
theorem trimF_lt {a : AD} {t n m : Nat} (h : t < 2 ^ 64) (hm : m < 2 ^ 64) : (trimF a t n m).2.1 < 2 ^ 64 := by
  unfold trimF
  split
  · exact h
  · show (if _ then _ else _) < _
    split <;> assumption
section
variable {p q r t n S : Nat} {a : AD} {F : List Nat} {w0 w : World} {X : List A}
theorem append_all (h : Dr p a F w0 w (blk r (rgC p S t n) 87 :: X)) {N : Nat} (hF : a.Few N) (hN : N + 100 ≤ 1000000) (h1S : 1 ≤ S) (h2S : S ≤ 1000000) (hs : n < 2 ^ 64) {row : Int} {g : Option Addr} {c m : Nat} {l : List RP} (hm : m = l.length) (hp : ∀ (w' : World) (Δ : List A), T F w0 w' (Δ ++ X) → partsAt w' g l) (hl : l.length ≤ 1000000) :
    Calls Tryz.prog 24 #[.pointer (some ⟨r, 0, none⟩), .int .i64 row, .slice g m c] w fun e w' => e = .returned (.tuple #[.int .u64 (apF a S t n row l).2.2.1, .int .i64 (apF a S t n row l).2.2.2]) ∧ Dr p (apF a S t n row l).1 F w0 w' (blk r (rgC p S t (apF a S t n row l).2.1) 87 :: X) := by
  subst hm
  unfold apF
  by_cases hb : leftF S t n < 1
  · rw [if_pos hb]; exact append_busy h List.mem_cons_self hb row g _ c
  · rw [if_neg hb]
    by_cases hq : PlacedR row l ∧ LoadedR l
    · rw [if_pos hq]; exact append_good_p h hF hN h1S h2S hs hb hp hq.1 hq.2
    · rw [if_neg hq]; exact append_bad_p h List.mem_cons_self hb (fun w' Δ h' => hp w' (Δ ++ [_]) (by rw [List.append_assoc]; exact h')) hl hq
theorem append13_all (h : Rf p a F w0 w (blk r (krC p t n) 65 :: X)) {N : Nat} (hF : a.Few N) (hN : N + 100 ≤ 999999) (hS : (slotsN (a.safe.length : Int)).toNat = S) (h1S : 1 ≤ S) (hs : n < 2 ^ 64) {row : Int} {g : Option Nat} {c m : Nat} {l : List RP} (hm : m = l.length) (hp : rowP 115 3 g l.length c (rpL l) ∈ X) (hl : l.length ≤ 1000000) :
    Calls Tryz.prog 25 #[.pointer (some ⟨r, 0, none⟩), .int .i64 row, .slice (ptr g) m c] w fun e w' => e = .returned (.tuple #[.int .u64 (apF a S t n row l).2.2.1, .int .i64 (apF a S t n row l).2.2.2]) ∧ Rf p (apF a S t n row l).1 F w0 w' (blk r (krC p t (apF a S t n row l).2.1) 65 :: X) := by
  subst hm
  subst hS
  unfold apF
  by_cases hb : leftF (slotsN (a.safe.length : Int)).toNat t n < 1
  · rw [if_pos hb]; exact append13_busy h List.mem_cons_self hb row _ _ c
  · rw [if_neg hb]
    by_cases hq : PlacedR row l ∧ LoadedR l
    · rw [if_pos hq]; exact append13_good h hF hN h1S hs hb hp hq.1 hq.2
    · rw [if_neg hq]; exact append13_bad h List.mem_cons_self hb (List.mem_cons_of_mem _ hp) hl hq
/-- two rings: their blocks, and their numbers -/
abbrev RSt : Type := Nat × Nat × Nat × Nat
def rgX (p q S : Nat) : Option RSt → List A
  | none => []
  | some x => [blk x.1 (rgC p S x.2.2.1 x.2.2.2) 87, blk x.2.1 (krC q x.2.2.1 x.2.2.2) 65]
def StOk (S : Nat) (st : Option RSt) : Prop := ∀ x, st = some x → x.2.2.1 < 2 ^ 64 ∧ x.2.2.2 < 2 ^ 64 ∧ 1 ≤ S
theorem duo_open (h : Duo p q a a F w0 w X) (hF : a.Few 1000000) (hS : (slotsN (a.safe.length : Int)).toNat = S) : Calls Tryz.prog 12 #[.pointer (some ⟨p, 0, none⟩)] w fun e w1 => ∃ (pr g : Option Nat) (c : Nat) (lx : List RcX), e = .returned (.tuple #[.pointer (ptr pr), .slice (ptr g) lx.length c, .int .i64 (openF a).2]) ∧ Calls Tryz.prog 13 #[.pointer (some ⟨q, 0, none⟩)] w1 fun e2 w2 => ∃ (st : Option RSt) (g' : Option Nat) (c' : Nat) (ly : List RcX), e2 = .returned (.tuple #[.pointer (ptr (st.map fun x => x.2.1)), .slice (ptr g') ly.length c', .int .i64 (openF a).2]) ∧ (st.map fun x => x.1) = pr ∧ StOk S st ∧ lx.map (·.1) = ly.map (·.1) ∧ (∀ x ∈ lx, x.1.2.2.length ≤ 41) ∧ lx.length ≤ 99 ∧
      Duo p q a a F w0 w2 (rgX p q S st ++ (rowP 95 3 g lx.length c (rxL lx) :: rowP 99 3 g' ly.length c' (rxL ly) :: (rxOwn lx ++ (ryOwn ly ++ X)))) := by
  have hl := h.len
  have hz := fun i => h.size64 i
  have hz3 := fun h0 => h.is64 (i := 3) h0
  have hS99 : S ≤ 99 := by unfold slotsN at hS; omega
  have hlt := openF_lt a
  refine Duo.d h fun Z hd hb => (open_ring hd hF hl).mono fun e w1 hh => ?_
  rw [hS] at hh
  rcases hh with ⟨h0, he, h1⟩ | ⟨h0, hs1, r, g, c, lx, he, hlx, h1⟩
  · refine ⟨none, none, 0, [], he, ?_⟩
    refine Duo.r (hb _ w1 X h1) fun Z2 hr hb2 => (open13_ring hr hF hz hz3).mono fun e2 w2 hh2 => ?_
    rcases hh2 with ⟨_, he2, h2⟩ | ⟨h0', _⟩
    · refine ⟨none, none, 0, [], he2, rfl, (fun x hx => by cases hx), rfl, (fun x hx => by cases hx), Nat.zero_le _, ?_⟩
      exact hb2 _ w2 _ (Rf.nilRow (Rf.nilRow h2 _ _) _ _)
    · exact absurd h0' h0
  · refine ⟨some r, g, c, lx, by rw [h0]; exact he, ?_⟩
    have hlx1 : ∀ x ∈ lx, x.1.2.2.length ≤ 41 := fun x hx => recsF_len a S S _ x.1 (by rw [← hlx]; exact List.mem_map.2 ⟨x, hx, rfl⟩)
    have hlx2 : lx.length ≤ 99 := by
      have := recsF_le a S S (((openF a).1 + 1) % 2 ^ 64)
      rw [← hlx, List.length_map] at this; omega
    have hd1 := hb _ w1 (blk r (rgC p S (openF a).1 (((openF a).1 + 1 + lx.length) % 2 ^ 64)) 87 :: rowP 95 3 g lx.length c (rxL lx) :: (rxOwn lx ++ X)) (by rw [List.cons_append, List.cons_append, List.append_assoc]; exact h1)
    refine Duo.r hd1 fun Z2 hr hb2 => (open13_ring hr hF hz hz3).mono fun e2 w2 hh2 => ?_
    rw [hS] at hh2
    rcases hh2 with ⟨h0', _⟩ | ⟨_, _, s, g', c', ly, he2, hly, h2⟩
    · exact absurd h0 h0'
    · have hln : ly.length = lx.length := by rw [← List.length_map (f := (·.1)), hly, ← hlx, List.length_map]
      refine ⟨some (r, s, (openF a).1, ((openF a).1 + 1 + lx.length) % 2 ^ 64), g', c', ly, by rw [h0]; exact he2, rfl, ?_, by rw [hlx, hly], hlx1, hlx2, ?_⟩
      · intro x hx; cases hx
        exact ⟨hlt, Nat.mod_lt _ (by decide), hs1⟩
      · have h3 := hb2 _ w2 (blk s (krC q (openF a).1 (((openF a).1 + 1 + ly.length) % 2 ^ 64)) 65 :: rowP 99 3 g' ly.length c' (rxL ly) :: (ryOwn ly ++ (blk r (rgC p S (openF a).1 (((openF a).1 + 1 + lx.length) % 2 ^ 64)) 87 :: rowP 95 3 g lx.length c (rxL lx) :: (rxOwn lx ++ X)))) (by rw [List.cons_append, List.cons_append, List.append_assoc]; exact h2)
        rw [hln] at h3 ⊢
        refine h3.perm ?_
        show List.Perm _ (blk r _ _ :: blk s _ _ :: rowP 95 3 g lx.length c (rxL lx) :: rowP 99 3 g' lx.length c' (rxL ly) :: (rxOwn lx ++ (ryOwn ly ++ X)))
        generalize rxOwn lx = U
        generalize ryOwn ly = V
        refine (List.Perm.trans ?_ (List.Perm.swap _ _ _))
        refine List.Perm.cons _ ?_
        refine (List.perm_middle (l₁ := _ :: V)).trans (List.Perm.cons _ ?_)
        refine (List.perm_middle (l₁ := _ :: V)).trans (List.Perm.cons _ ?_)
        refine List.Perm.cons _ ?_
        show List.Perm (V ++ (U ++ X)) (U ++ (V ++ X))
        rw [← List.append_assoc, ← List.append_assoc]
        exact List.perm_append_comm.append_right _
end
end Go.Proofs.YtbecjmfcppginaaGreat
end
section
/-! law13: same, weighs; acts as they lie. -/
namespace Go.Proofs.YtbecjmfcppginaaGreat
open Go.Sh Go.RowKit
set_option linter.unusedVariables false
set_option linter.unusedSimpArgs false
set_option maxRecDepth 20000
set_option maxHeartbeats 1000000
theorem rxGet {l : List RcX} {j : Nat} {x : RcX} (h : l[j]? = some x) {m : Nat} {v : Value} (hv : (rxC x)[m]? = some v) : (rxL l)[j * 3 + m]? = some v := by
  have hm : m < 3 := (Array.getElem?_eq_some_iff.1 hv).1
  induction l generalizing j with
  | nil => simp at h
  | cons y l ih =>
    have e : rxL (y :: l) = (rxC y).toList ++ rxL l := rfl
    rw [e]
    cases j with
    | zero =>
      obtain rfl : y = x := by simpa using h
      rw [Nat.zero_mul, Nat.zero_add, List.getElem?_append_left (by show m < 3; exact hm)]
      simpa using hv
    | succ j =>
      rw [List.getElem?_append_right (by show 3 ≤ _; omega)]
      have : (j + 1) * 3 + m - (rxC y).toList.length = j * 3 + m := by show (j + 1) * 3 + m - 3 = _; omega
      rw [this]
      exact ih (by simpa using h)
theorem rsamel_spec {F : List Nat} {w0 w : World} {Γ : List A} (hT : T F w0 w Γ) {g1 g2 : Option Nat} {c1 c2 : Nat} {lx ly : List RcX} (h1 : rowP 95 3 g1 lx.length c1 (rxL lx) ∈ Γ) (ho1 : ∀ x ∈ lx, rowP 71 3 x.2.1 x.1.2.2.length x.2.2 (rpL x.1.2.2) ∈ Γ) (h2 : rowP 99 3 g2 ly.length c2 (rxL ly) ∈ Γ) (ho2 : ∀ x ∈ ly, rowP 115 3 x.2.1 x.1.2.2.length x.2.2 (rpL x.1.2.2) ∈ Γ)
    (he : lx.map (·.1) = ly.map (·.1)) (hs : ∀ x ∈ lx, x.1.2.2.length ≤ 41) (hl : lx.length ≤ 99) :
    Calls Tryz.prog 22 #[.slice (ptr g1) lx.length c1, .slice (ptr g2) ly.length c2] w fun e w' => e = .returned (.bool true) ∧ T F w0 w' Γ := by
  refine (revetmentlaw13_same_calls (R := fun v w' => v = .bool true ∧ T F w0 w' Γ) ?_).mono fun e w' ⟨v, he, hv, h⟩ => ⟨by rw [he, hv], h⟩
  unfold revetmentlaw13_same
  have hln : ly.length = lx.length := by rw [← List.length_map (f := (·.1)), ← he, List.length_map]
  refine ⟨bne_t fun hne => absurd (by omega) hne, bne_f fun _ => ?_⟩
  refine ⟨fun vs w' => ∃ i : Nat, vs = [.int .i64 (i : Int)] ∧ i ≤ lx.length ∧ T F w0 w' Γ, fun vs _ => match vs with | [.int _ i] => (lx.length - i).toNat | _ => 0, ⟨0, rfl, by omega, hT⟩, ?_⟩
  rintro vs w1 ⟨i, rfl, hi, hT1⟩
  refine ⟨_, rfl, dec_t fun hlt => ?_, dec_f fun hge => ⟨rfl, hT1⟩⟩
  have hlt : i < lx.length := by omega
  have hlt2 : i < ly.length := by omega
  obtain ⟨x, hx⟩ : ∃ x, lx[i]? = some x := ⟨_, List.getElem?_eq_getElem hlt⟩
  obtain ⟨y, hy⟩ : ∃ y, ly[i]? = some y := ⟨_, List.getElem?_eq_getElem hlt2⟩
  have hxy : x.1 = y.1 := by
    have := congrArg (·[i]?) he
    simp only [List.getElem?_map, hx, hy, Option.map_some] at this
    exact Option.some.inj this
  have hxm := List.mem_of_getElem? hx
  have hym := List.mem_of_getElem? hy
  have hox := ho1 x hxm
  have hoy := ho2 y hym
  have hsx := hs x hxm
  obtain ⟨⟨sq, row, ps⟩, gx, cx⟩ := x
  obtain ⟨⟨sq', row', ps'⟩, gy, cy⟩ := y
  cases hxy
  have hox : rowP 71 3 gx ps.length cx (rpL ps) ∈ Γ := hox
  have hoy : rowP 115 3 gy ps.length cy (rpL ps) ∈ Γ := hoy
  have hsx : ps.length ≤ 41 := hsx
  obtain ⟨b1, rfl⟩ := rowP.pos (hT1.says h1) (by omega)
  obtain ⟨b2, rfl⟩ := rowP.pos (hT1.says h2) (by omega)
  have aa : ∀ (b m : Nat), Addr.add (Addr.add ⟨b, 0, none⟩ (i * 3)) m = Addr.add ⟨b, 0, none⟩ (i * 3 + m) := fun b m => by rw [addr_add, addr_add, addr_add, Nat.add_assoc]
  have cx' : ∀ (w' : World) (Δ : List A), T F w0 w' (Δ ++ Γ) → ∀ m v, (rxC ((sq, row, ps), gx, cx))[m]? = some v → w'.cell? (Addr.add ⟨b1, 0, none⟩ (i * 3 + m)) = some v := fun w' Δ h m v hv => by
    rw [addr_add, Nat.zero_add]; exact rowP.cell (h.says (List.mem_append_right _ h1)) (rxGet hx hv)
  have cy' : ∀ (w' : World) (Δ : List A), T F w0 w' (Δ ++ Γ) → ∀ m v, (rxC ((sq, row, ps), gy, cy))[m]? = some v → w'.cell? (Addr.add ⟨b2, 0, none⟩ (i * 3 + m)) = some v := fun w' Δ h m v hv => by
    rw [addr_add, Nat.zero_add]; exact rowP.cell (h.says (List.mem_append_right _ h2)) (rxGet hy hv)
  have hd := hT1.drew
  refine ⟨fun w' => ∃ Δ, T F w0 w' (Δ ++ Γ), ⟨[], hd⟩, _, rfl, by omega, by omega, (sq : Int), fun w' ⟨Δ, h⟩ => by rw [Int.toNat_natCast]; exact cx' w' Δ h 0 _ rfl, _, rfl, by omega, by omega, row, fun w' ⟨Δ, h⟩ => by rw [Int.toNat_natCast, aa]; exact cx' w' Δ h 1 _ rfl, _, rfl, by omega, by omega, _, _, _, fun w' ⟨Δ, h⟩ => by rw [Int.toNat_natCast, aa]; exact cx' w' Δ h 2 _ rfl, ?_⟩
  refine (theirs_spec (l := ps) hd hox (by omega)).mono fun e w2 ⟨g3, c3, he2, h2'⟩ => ⟨_, _, _, he2, ⟨[_], h2'⟩, _, rfl, by omega, by omega, (sq : Int), row, ptr gy, ps.length, cy, fun w' ⟨Δ, h⟩ => ⟨by rw [Int.toNat_natCast]; exact cy' w' Δ h 0 _ rfl, by rw [Int.toNat_natCast, aa]; exact cy' w' Δ h 1 _ rfl, by rw [Int.toNat_natCast, aa]; exact cy' w' Δ h 2 _ rfl⟩, ?_⟩
  refine (same12_spec (s1 := sq) (s2 := sq) (r1 := row) (r2 := row) (c1 := c3) (c2 := cy) (l1 := ps) (l2 := ps) (T.parts12 h2' List.mem_cons_self) (T.parts12 h2' (List.mem_cons_of_mem _ hoy)) (by omega)).mono fun e w3 ⟨he3, hx3⟩ => ⟨_, he3, ⟨[_], h2'.quiet hx3⟩, not_t fun hb => ?_, not_f fun _ => ⟨⟨i + 1, ?_, by omega, (h2'.quiet hx3).drop⟩, ?_⟩⟩
  · rw [decide_eq_true ⟨rfl, rfl, rfl⟩] at hb; cases hb
  · rw [wrap64 _ (by omega) (by omega)]; rfl
  · show ((lx.length : Int) - IntKind.i64.wrap ((i : Int) + 1)).toNat < ((lx.length : Int) - (i : Int)).toNat
    rw [wrap64 _ (by omega) (by omega)]; omega
structure RAct where
  k : Int
  i : Int
  s : List ByteArray
  parts : List RP
  keep : List UInt8
  pS : Option Addr
  cS : Nat
  pP : Option Addr
  cP : Nat
  pK : Option Addr
  cK : Nat
def raC (x : RAct) : Array Value := #[.int .i64 x.k, .int .i64 x.i, .slice x.pS x.s.length x.cS, .slice x.pP x.parts.length x.cP, .slice x.pK x.keep.length x.cK]
structure RActAt (w : World) (a : Addr) (x : RAct) : Prop where
  at_ : ∀ m v, (raC x)[m]? = some v → w.cell? (a.add m) = some v
  str : strsAt w x.pS x.s
  prt : partsAt w x.pP x.parts
  byt : bytesAt w x.pK x.keep
theorem RActAt.ext {w w' : World} {a : Addr} {x : RAct} (h : RActAt w a x) (hx : Ext w w') : RActAt w' a x := ⟨fun m v hv => cell_ext hx (h.at_ m v hv), h.str.ext hx, h.prt.ext hx, h.byt.ext hx⟩
def ractsAt (w : World) (p : Option Addr) (l : List RAct) : Prop := (l ≠ [] → ∃ a, p = some a) ∧ ∀ a, p = some a → ∀ j x, l[j]? = some x → RActAt w (a.add (j * 5)) x
theorem ractsAt.get {w w' : World} {p : Option Addr} {l : List RAct} (h : ractsAt w p l) (hx : Ext w w') {n : Nat} (h1 : n < l.length) : ∃ a, p = some a ∧ RActAt w' (a.add (n * 5)) l[n] := by
  obtain ⟨a, ha⟩ := h.1 (by intro e; subst e; simp at h1)
  exact ⟨a, ha, (h.2 a ha n _ (List.getElem?_eq_getElem h1)).ext hx⟩
theorem RActAt.zero {w : World} {a : Addr} {x : RAct} (h : RActAt w a x) : w.cell? a = some (.int .i64 x.k) := by
  have := h.at_ 0 _ rfl
  have hz : a.add 0 = a := by simp [Addr.add]
  rw [hz] at this; exact this
def OkAct (x : RAct) : Prop := x.s.length ≤ 20 ∧ (∀ s ∈ x.s, s.size ≤ 100) ∧ x.parts.length ≤ 50 ∧ x.keep.length ≤ 50
theorem weighs_spec {l : List RAct} {p : Option Addr} {c : Nat} {w : World} (H : ractsAt w p l) : Calls Tryz.prog 4 #[.slice p l.length c] w fun e w' => ∃ b, e = .returned (.bool b) ∧ Ext w w' ∧ (b = false → l.length ≤ 40 ∧ ∀ x ∈ l, OkAct x) := by
  refine (revetmentlaw13_weighs_calls (R := fun v w' => ∃ b, v = .bool b ∧ Ext w w' ∧ (b = false → l.length ≤ 40 ∧ ∀ x ∈ l, OkAct x)) ?_).mono fun e w' ⟨v, he, b, hv, h⟩ => ⟨b, by rw [he, hv], h⟩
  unfold revetmentlaw13_weighs
  have out : ∀ {w' : World}, Ext w w' → ∃ b, Value.bool true = .bool b ∧ Ext w w' ∧ (b = false → l.length ≤ 40 ∧ ∀ x ∈ l, OkAct x) := fun hx => ⟨true, rfl, hx, fun hh => by cases hh⟩
  refine ⟨dec_t fun _ => out (.refl w), dec_f fun hl => ?_⟩
  refine ⟨fun vs w' => ∃ i : Nat, vs = [.int .i64 (i : Int)] ∧ i ≤ l.length ∧ Ext w w' ∧ ∀ x ∈ l.take i, OkAct x, fun vs _ => match vs with | [.int _ i] => (l.length - i).toNat | _ => 0, ⟨0, rfl, by omega, .refl w, by simp⟩, ?_⟩
  rintro vs w1 ⟨i, rfl, hi, hx1, hok⟩
  refine ⟨_, rfl, dec_t fun hlt => ?_, dec_f fun hge => ?_⟩
  · have hlt : i < l.length := by omega
    obtain ⟨a, ha, hA⟩ := H.get (.refl w) hlt
    have hnext : ∀ y ∈ l.take (i + 1), y ∈ l.take i ∨ y = l[i] := fun y hy => by
      rw [List.take_add_one, List.getElem?_eq_getElem hlt] at hy
      rcases List.mem_append.1 hy with hy | hy
      · exact .inl hy
      · exact .inr (by simpa using hy)
    generalize l[i] = x at hA hnext
    refine ⟨a, ha, by omega, by omega, _, _, _, by rw [Int.toNat_natCast]; exact (hA.ext hx1).at_ 2 _ rfl, ?_⟩
    refine (rheavy_spec (hA.ext hx1).str).mono fun e w2 ⟨he, hx2⟩ => ⟨_, he, fun hb => out (hx1.trans hx2), fun hb => ?_⟩
    obtain ⟨h20, h100⟩ := heavyR_short hb
    have hx12 := hx1.trans hx2
    refine ⟨a, ha, by omega, by omega, _, _, _, by rw [Int.toNat_natCast]; exact (hA.ext hx12).at_ 3 _ rfl, dec_t fun _ => out hx12, dec_f fun hp50 => ?_⟩
    refine ⟨a, ha, by omega, by omega, _, _, _, by rw [Int.toNat_natCast]; exact (hA.ext hx12).at_ 4 _ rfl, dec_t fun _ => out hx12, dec_f fun hk50 => ?_⟩
    refine ⟨fun vs w' => ∃ j : Nat, vs = [.int .i64 (j : Int)] ∧ j ≤ x.parts.length ∧ Ext w w', fun vs _ => match vs with | [.int _ j] => (x.parts.length - j).toNat | _ => 0, ⟨0, rfl, by omega, hx12⟩, ?_⟩
    rintro vs w3 ⟨j, rfl, hj, hx3⟩
    refine ⟨_, rfl, a, ha, by omega, by omega, _, _, _, by rw [Int.toNat_natCast]; exact (hA.ext hx3).at_ 3 _ rfl, dec_t fun hjl => ?_, dec_f fun hjg => ?_⟩
    · have hjl : j < x.parts.length := by omega
      obtain ⟨ap, hap, _, _, q2⟩ := (hA.ext hx3).prt.get hjl
      refine ⟨a, ha, by omega, by omega, _, _, _, by rw [Int.toNat_natCast]; exact (hA.ext hx3).at_ 3 _ rfl, ap, hap, by omega, by omega, _, by rw [Int.toNat_natCast]; exact q2, dec_t fun _ => out hx3, dec_f fun _ => ⟨⟨j + 1, ?_, by omega, hx3⟩, ?_⟩⟩
      · rw [wrap64 _ (by omega) (by omega)]; rfl
      · show ((x.parts.length : Int) - IntKind.i64.wrap ((j : Int) + 1)).toNat < ((x.parts.length : Int) - (j : Int)).toNat
        rw [wrap64 _ (by omega) (by omega)]; omega
    · refine ⟨⟨i + 1, ?_, by omega, hx3, fun y hy => ?_⟩, ?_⟩
      · rw [wrap64 _ (by omega) (by omega)]; rfl
      · rcases hnext y hy with hy | rfl
        · exact hok y hy
        · exact ⟨h20, h100, by omega, by omega⟩
      · show ((l.length : Int) - IntKind.i64.wrap ((i : Int) + 1)).toNat < ((l.length : Int) - (i : Int)).toNat
        rw [wrap64 _ (by omega) (by omega)]; omega
  · have hie : i = l.length := by omega
    subst hie
    rw [List.take_length] at hok
    exact ⟨false, rfl, hx1, fun _ => ⟨by omega, hok⟩⟩
end Go.Proofs.YtbecjmfcppginaaGreat
end
