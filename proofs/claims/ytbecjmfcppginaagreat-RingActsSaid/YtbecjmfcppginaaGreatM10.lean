import Derived.Lib.ConvBytes
import Derived.Laws.Slices
import Derived.Test.YtbecjmfcppginaaGreatM2
import Derived.Test.YtbecjmfcppginaaGreatM3
import Derived.Test.YtbecjmfcppginaaGreatM5
import Derived.Test.YtbecjmfcppginaaGreatM9
section
/-! pack: Encode. -/
namespace Go.Proofs.YtbecjmfcppginaaGreat
open Go.Sh Go.RowKit
set_option linter.unusedVariables false
set_option maxRecDepth 20000
set_option maxHeartbeats 1000000
theorem u64s_len (ns : List Nat) : (u64s ns).length = ns.length := List.length_map ..
theorem ints_len (ns : List Nat) : (ints ns).length = ns.length := List.length_map ..
theorem encP_take_step {ns ws : List Nat} {i k v x : Nat} (hw : ws[i]? = some x) (hn : ns[i]? = some v) (hk : k < x) : (encP ns ws).take (wsum ws i + k + 1) = (encP ns ws).take (wsum ws i + k) ++ [UInt8.ofNat (v / 2 ^ (8 * k))] := by
  rw [List.take_add_one, encP_get ns ws i k v x hw hn hk]; rfl
theorem encode_spec {ns ws : List Nat} (hv : Wid ws) (hl : ns.length = ws.length) (hf : ∀ (i n x : Nat), ns[i]? = some n → ws[i]? = some x → n < 256 ^ x) {F : List Nat} {w0 w : World} {Γ : List A} (hT : T F w0 w Γ) {g1 g2 : Option Nat} {n1 n2 c1 c2 : Nat} (hn1 : n1 = ns.length) (hn2 : n2 = ws.length)
    (hm1 : rowP 57 1 g1 n1 c1 (u64s ns) ∈ Γ) (hm2 : rowP 3 1 g2 n2 c2 (ints ws) ∈ Γ) :
    Calls Tryz.prog 70 #[.slice (ptr g1) n1 c1, .slice (ptr g2) n2 c2] w fun e w' => e = .returned (.tuple #[.string (strB (encP ns ws)), .int .i64 0]) ∧ T F w0 w' Γ := by
  subst hn1; subst hn2
  refine (pack_Encode_calls (R := fun v w' => v = .tuple #[.string (strB (encP ns ws)), .int .i64 0] ∧ T F w0 w' Γ) ?_).mono fun e w' ⟨v, he, hv, h⟩ => ⟨by rw [he, hv], h⟩
  unfold pack_Encode
  have hs := hv.sum
  have hw64 := hv.1
  refine Alloc.t hT fun k2 w1 h1 => ?_
  refine (size_spec hv (T.readsW h1 (List.mem_cons_of_mem _ hm2))).mono fun e w2 ⟨he, hx⟩ => ⟨_, _, he, no rfl ?_⟩
  have h2 := h1.quiet hx
  refine ⟨_, _, _, h2.ld List.mem_cons_self rfl, no (by rw [hl]; simp) ?_⟩
  refine ⟨fun vs w' => ∃ i : Nat, vs = [.string (ByteArray.mk #[]), .int .i64 0, .int .i64 (i : Int)] ∧ i ≤ ws.length ∧ T F w0 w' (blk k2 #[.slice (ptr g1) ns.length c1] 90 :: Γ), fun vs _ => match vs with | [_, _, .int _ i] => (ws.length - i).toNat | _ => 0, ⟨0, rfl, by omega, h2⟩, ?_⟩
  rintro vs w3 ⟨i, rfl, hi, h3⟩
  refine ⟨_, _, _, rfl, dec_t fun hlt => ?_, dec_f fun hge => ?_⟩
  · have hlt : i < ws.length := by omega
    have hx : ws[i]? = some ws[i] := by simp [hlt]
    have hn : ns[i]? = some (ns[i]'(by omega)) := by simp [hl, hlt]
    obtain ⟨b2, rfl, _, hc2⟩ := T.cell1 h3 (List.mem_cons_of_mem _ hm2) (ints_get hx)
    obtain ⟨b1, rfl, _, hc1⟩ := T.cell1 h3 (List.mem_cons_of_mem _ hm1) (u64s_get hn)
    refine ⟨_, rfl, by omega, by omega, _, by rw [Int.toNat_natCast]; exact hc2, _, _, _, h3.ld List.mem_cons_self rfl, _, rfl, by omega, by omega, _, by rw [Int.toNat_natCast]; exact hc1, ?_⟩
    refine (fits_spec _ _ (hf i _ _ hn hx) (hv.at hx) w3).mono fun e w4 ⟨he, hx4⟩ => ⟨_, he, fun h => (by cases h), fun _ => ⟨⟨i + 1, ?_, by omega, h3.quiet hx4⟩, ?_⟩⟩
    · rw [wrap64 _ (by omega) (by omega)]; rfl
    · show ((ws.length : Int) - IntKind.i64.wrap ((i : Int) + 1)).toNat < ((ws.length : Int) - (i : Int)).toNat
      rw [wrap64 _ (by omega) (by omega)]; omega
  · obtain ⟨k4, w5, hmk, h5⟩ := make_t (P := Tryz.prog) (t := 44) (e := 5) (i := Tryz.t5) (z := .int .u8 0) (kl := .i64) (kc := .i64) (n := 0) (c := (ws.sum : Int)) (by kernel_rfl) (by kernel_rfl) (by kernel_rfl) (by kernel_rfl) (by rfl) (by kernel_rfl) (by omega) (by omega) (by omega) h3
    simp only [Int.toNat_zero, Int.toNat_natCast] at hmk h5
    refine ⟨_, _, _, w5, hmk, ?_⟩
    refine Alloc.t h5 fun k10 w6 h6 => St.t h6 .head (by simp) (by rfl) rfl fun w7 h7 => ?_
    refine (pack_places_calls (R := fun v w' => ∃ k1, v = .func (.func 103) #[] #[.pointer (some ⟨k1, 0, none⟩)] ∧ T F w0 w' (blk k1 #[.slice (ptr g2) ws.length c2] 93 :: blk k10 #[.slice (ptr (some k4)) 0 ws.sum] 44 :: rowP 5 1 (some k4) 0 ws.sum [] :: blk k2 #[.slice (ptr g1) ns.length c1] 90 :: Γ)) ?_).mono ?_
    · unfold pack_places
      exact Alloc.t h7 fun k1 w8 h8 => ⟨k1, rfl, h8⟩
    · rintro e w8 ⟨v, he, k1, rfl, h8⟩
      refine ⟨_, he, ?_⟩
      refine RangeP.t (by kernel_rfl) h8 (N := ws.sum) (arg := placeA ws)
        (Inv := fun m Γm => ∃ g cap, Γm = blk k1 #[.slice (ptr g2) ws.length c2] 93 :: blk k10 #[.slice (ptr g) m cap] 44 :: rowP 5 1 g m cap (bvals ((encP ns ws).take m)) :: blk k2 #[.slice (ptr g1) ns.length c1] 90 :: Γ)
        ⟨some k4, ws.sum, rfl⟩ ?_ ?_ ?_
      · intro yv J hJ hc W hW
        refine places_spec hv (J := J) (g := g2) (cap := c2) (fun m W hm => ?_) hc W hW
        obtain ⟨Γk, x, y, ⟨g, cap, rfl⟩, h⟩ := hJ m W hm
        exact ⟨h.ld (List.mem_cons_of_mem _ (List.mem_cons_of_mem _ List.mem_cons_self)) rfl, T.readsW h (List.mem_cons_of_mem _ (List.mem_cons_of_mem _ (List.mem_cons_of_mem _ (List.mem_cons_of_mem _ (List.mem_cons_of_mem _ (List.mem_cons_of_mem _ hm2))))))⟩
      · rintro obf l d m Γk W Φ hm ⟨g, cap, rfl⟩ hW hΦ
        obtain ⟨i, k, x, hx, hk, rfl⟩ := placeL_inv ws 0 m hm
        have h8 := hv.at hx
        have hil : i < ws.length := (List.getElem?_eq_some_iff.1 hx).1
        have hn : ns[i]? = some (ns[i]'(by omega)) := by simp [hl, hil]
        generalize ns[i]'(by omega) = v at hn
        rw [placeA_get hx hk]
        refine ⟨_, _, rfl, ?_⟩
        refine RoundP.t hW (G := fun Γ' => ∃ Γ'', Γ' = ob d (.deferred (some [])) :: Γ'' ∧ ∃ g cap, Γ'' = blk k1 #[.slice (ptr g2) ws.length c2] 93 :: blk k10 #[.slice (ptr g) (wsum ws i + k + 1) cap] 44 :: rowP 5 1 g (wsum ws i + k + 1) cap (bvals ((encP ns ws).take (wsum ws i + k + 1))) :: blk k2 #[.slice (ptr g1) ns.length c1] 90 :: Γ) ?_ ?_
        · rintro Γ' w' ⟨Γ'', rfl, hi'⟩ h'
          exact hΦ Γ'' w' hi' h'
        · intro K X R w9 h9 hK
          obtain ⟨b1, rfl, _, _⟩ := T.cell1 h9 (List.mem_cons_of_mem _ (List.mem_cons_of_mem _ (List.mem_cons_of_mem _ (List.mem_cons_of_mem _ (List.mem_cons_of_mem _ (List.mem_cons_of_mem _ hm1)))))) (u64s_get hn)
          have hD : ∀ {w : World} {Γ' : List A}, T F w0 w Γ' → blk k10 #[.slice (ptr g) (wsum ws i + k) cap] 44 ∈ Γ' → blk k2 #[.slice (ptr (some b1)) ns.length c1] 90 ∈ Γ' → rowP 57 1 (some b1) ns.length c1 (u64s ns) ∈ Γ' →
              (w.cell? ⟨k10, 0, none⟩ = some (.slice (ptr g) (wsum ws i + k) cap) ∧ w.cell? ⟨k2, 0, none⟩ = some (.slice (ptr (some b1)) ns.length c1) ∧ w.cell? (Addr.add ⟨b1, 0, none⟩ (i * 1)) = some (.int .u64 (v : Int))) := by
            intro w Γ' h m1 m2 m3
            obtain ⟨b', hb', _, hc⟩ := T.cell1 h m3 (u64s_get hn)
            cases hb'
            exact ⟨h.ld m1 rfl, h.ld m2 rfl, hc⟩
          have hbyte : IntKind.u8.wrap (Int.fdiv (v : Int) (2 ^ (min ((8 * k : Nat) : Int).toNat 64))) = ((UInt8.ofNat (v / 2 ^ (8 * k))).toNat : Int) := by
            rw [Int.toNat_natCast, Nat.min_eq_left (by omega), Int.fdiv_eq_ediv_of_nonneg _ (Int.le_of_lt (Int.pow_pos (by decide))), wrap8]
            have : ((v : Int) / 2 ^ (8 * k)) = ((v / 2 ^ (8 * k) : Nat) : Int) := by push_cast; rfl
            rw [this]
            simp
          have hmx := wsum_max (ws := ws) (i + 1)
          have hst := wsum_step hx
          refine ⟨fun w => w.cell? ⟨k10, 0, none⟩ = some (.slice (ptr g) (wsum ws i + k) cap) ∧ w.cell? ⟨k2, 0, none⟩ = some (.slice (ptr (some b1)) ns.length c1) ∧ w.cell? (Addr.add ⟨b1, 0, none⟩ (i * 1)) = some (.int .u64 (v : Int)), hD h9.drew (by repeat (first | exact List.Mem.head _ | refine List.Mem.tail _ ?_)) (by repeat (first | exact List.Mem.head _ | refine List.Mem.tail _ ?_)) (by repeat (first | exact hm1 | refine List.mem_cons_of_mem _ ?_)),
            _, _, _, fun w h => h.1, _, _, _, fun w h => h.2.1, _, rfl, by omega, by omega, _, fun w h => by rw [Int.toNat_natCast]; exact h.2.2, by omega, ?_⟩
          rw [hbyte]
          refine Alloc.t h9.drew fun k57 w10 h10 => ⟨hD h10 (by repeat (first | exact List.Mem.head _ | refine List.Mem.tail _ ?_)) (by repeat (first | exact List.Mem.head _ | refine List.Mem.tail _ ?_)) (by repeat (first | exact hm1 | refine List.mem_cons_of_mem _ ?_)), ?_⟩
          obtain ⟨g', cap', w11, hr, h11⟩ := append_t (P := Tryz.prog) (t := 44) (ty := 44) (e := 5) (i := Tryz.t5) (z := .int .u8 0) (size := 1) #[false, false] (by kernel_rfl) (by kernel_rfl) (by kernel_rfl) (by kernel_rfl) (by rfl)
            h10 (.tail (.tail (.tail (.tail (.tail .head))))) (a := ⟨k57, 0, none⟩) (m := 1) (c := 1) (news := bvals [UInt8.ofNat (v / 2 ^ (8 * k))]) rfl (fun j u hu => by
              rw [addr_add, Nat.zero_add]
              exact h10.ld (by repeat (first | exact List.Mem.head _ | refine List.Mem.tail _ ?_)) (by simpa [bvals] using hu)) (bvals_one _) (by simp only [maxLen]; omega)
            (by have : (Tryz.t5).bytes = 1 := by kernel_rfl
                rw [this]; omega)
          rw [bvals_append, ← encP_take_step hx hn hk] at h11
          refine ⟨_, _, _, w11, hr, hD h11 (by repeat (first | exact List.Mem.head _ | refine List.Mem.tail _ ?_)) (by repeat (first | exact List.Mem.head _ | refine List.Mem.tail _ ?_)) (by repeat (first | exact hm1 | refine List.mem_cons_of_mem _ ?_)), ?_⟩
          refine St.t h11 (by repeat (first | exact Turn.head | apply Turn.tail)) (by simp) (by rfl) rfl fun w12 h12 => hK (ob d (.deferred (some [])) :: _) w12 ⟨_, rfl, g', cap', rfl⟩ ?_
          exact (T.dropAt h12 (.tail .head)).swap (Pick.perm (.tail (.tail (.tail (.tail .head))))).symm
      · rintro d Γ' w' ⟨g, cap, rfl⟩ h'
        rw [List.take_of_length_le (by rw [encP_len ns ws hl]; exact Nat.le_refl _)] at h'
        refine ⟨_, _, _, h'.ld (by repeat (first | exact List.Mem.head _ | refine List.Mem.tail _ ?_)) rfl, _, w', row_string h' (by repeat (first | exact List.Mem.head _ | refine List.Mem.tail _ ?_)), ?_⟩
        exact shut_mark (Q := fun w2 => _ = _ ∧ T F w0 w2 Γ) h' fun w2 h2 => ⟨rfl, h2.drop.drop.drop.drop⟩
end Go.Proofs.YtbecjmfcppginaaGreat
end
section
/-! pack: Decode. -/
namespace Go.Proofs.YtbecjmfcppginaaGreat
open Go.Sh Go.RowKit
set_option linter.unusedVariables false
set_option maxRecDepth 20000
set_option maxHeartbeats 1000000
def curL (s : List UInt8) (ws : List Nat) (m : Nat) : List Nat := (List.range ws.length).map (curP s ws m)
theorem curL_len (s : List UInt8) (ws : List Nat) (m : Nat) : (curL s ws m).length = ws.length := by simp [curL]
theorem curL_get (s : List UInt8) (ws : List Nat) (m : Nat) {i : Nat} (hi : i < ws.length) : (curL s ws m)[i]? = some (curP s ws m i) := by simp [curL, hi]
theorem curL_zero (s : List UInt8) (ws : List Nat) : u64s (curL s ws 0) = List.replicate ws.length (Value.int .u64 0) := by
  unfold u64s curL
  rw [List.map_map]
  apply List.ext_getElem?
  intro j
  rw [List.getElem?_replicate]
  by_cases hj : j < ws.length
  · simp [hj, curP_zero]
  · simp [hj]
theorem curL_all (s : List UInt8) (ws : List Nat) : curL s ws ws.sum = decP s ws := by
  apply List.ext_getElem?
  intro j
  by_cases hj : j < ws.length
  · have h : ws[j]? = some ws[j] := by simp [hj]
    rw [curL_get s ws _ hj, decP_get ws s j _ h, curP_all s h]
  · rw [List.getElem?_eq_none (by rw [curL_len]; omega), List.getElem?_eq_none (by rw [decP_len]; omega)]
theorem curL_step (s : List UInt8) {ws : List Nat} {i k x : Nat} (h : ws[i]? = some x) (hk : k < x) : (u64s (curL s ws (wsum ws i + k))).set i (.int .u64 (curP s ws (wsum ws i + k + 1) i : Int)) = u64s (curL s ws (wsum ws i + k + 1)) := by
  have hi := (List.getElem?_eq_some_iff.1 h).1
  apply List.ext_getElem?
  intro j
  rw [List.getElem?_set]
  by_cases hj : j < ws.length
  · rw [u64s_get (curL_get s ws (wsum ws i + k + 1) hj)]
    split
    · rename_i e; subst e
      rw [if_pos (by rw [u64s_len, curL_len]; exact hi)]
    · rename_i e
      rw [u64s_get (curL_get s ws (wsum ws i + k) hj), curP_other s h hk (fun e' => e e'.symm)]
  · rw [if_neg (by omega), List.getElem?_eq_none (by rw [u64s_len, curL_len]; omega), List.getElem?_eq_none (by rw [u64s_len, curL_len]; omega)]
theorem ints_take (ws : List Nat) (n x : Nat) (h : ws[n]? = some x) : ints (ws.take n) ++ [.int .i64 (x : Int)] = ints (ws.take (n + 1)) := by
  unfold ints
  rw [List.take_add_one, h]
  simp
theorem u64s_take (ws : List Nat) (n x : Nat) (h : ws[n]? = some x) : u64s (ws.take n) ++ [.int .u64 (x : Int)] = u64s (ws.take (n + 1)) := by
  unfold u64s
  rw [List.take_add_one, h]
  simp
theorem decode_spec {ws : List Nat} (hv : Wid ws) {s : ByteArray} (hsz : s.size = ws.sum) {F : List Nat} {w0 w : World} {Γ : List A} (hT : T F w0 w Γ) {g2 : Option Nat} {n2 c2 : Nat} (hn2 : n2 = ws.length)
    (hm2 : rowP 3 1 g2 n2 c2 (ints ws) ∈ Γ) :
    Calls Tryz.prog 44 #[.string s, .slice (ptr g2) n2 c2] w fun e w' => ∃ b, e = .returned (.tuple #[.slice (ptr (some b)) ws.length ws.length, .int .i64 0]) ∧ T F w0 w' (rowP 57 1 (some b) ws.length ws.length (u64s (decP s.data.toList ws)) :: Γ) := by
  subst hn2
  refine (pack_Decode_calls (R := fun v w' => ∃ b, v = .tuple #[.slice (ptr (some b)) ws.length ws.length, .int .i64 0] ∧ T F w0 w' (rowP 57 1 (some b) ws.length ws.length (u64s (decP s.data.toList ws)) :: Γ)) ?_).mono fun e w' ⟨v, he, b, hv, h⟩ => ⟨b, by rw [he, hv], h⟩
  unfold pack_Decode
  have hs := hv.sum
  have hw64 := hv.1
  have hlen : s.data.toList.length = ws.sum := by rw [Array.length_toList]; exact hsz
  refine Alloc.t hT fun k2 w1 h1 => ?_
  refine (size_spec hv (T.readsW h1 (List.mem_cons_of_mem _ hm2))).mono fun e w2 ⟨he, hx⟩ => ⟨_, _, he, no rfl ?_⟩
  have h2 := h1.quiet hx
  refine ⟨_, h2.ld List.mem_cons_self rfl, no (by rw [hsz]; simp) ?_⟩
  obtain ⟨k5, w3, hmk, h3⟩ := make_t (P := Tryz.prog) (t := 90) (e := 57) (i := Tryz.t57) (z := .int .u64 0) (kl := .i64) (kc := .i64) (n := (ws.length : Int)) (c := (ws.length : Int)) (by kernel_rfl) (by kernel_rfl) (by kernel_rfl) (by kernel_rfl) (by rfl) (by kernel_rfl) (by omega) (by omega) (by omega) h2
  simp only [Int.toNat_natCast] at hmk h3
  have h3 : T F w0 w3 (rowP 57 1 (some k5) ws.length ws.length (u64s (curL s.data.toList ws 0)) :: blk k2 #[.string (strB (s.data.toList.drop 0))] 9 :: Γ) := by
    rw [curL_zero, List.drop_zero, strB_list]; exact h3
  refine ⟨_, _, _, w3, hmk, ?_⟩
  refine Alloc.t h3 fun k8 w4 h4 => St.t h4 .head (by simp) (by rfl) rfl fun w5 h5 => ?_
  refine (pack_places_calls (R := fun v w' => ∃ k1, v = .func (.func 103) #[] #[.pointer (some ⟨k1, 0, none⟩)] ∧ T F w0 w' (blk k1 #[.slice (ptr g2) ws.length c2] 93 :: blk k8 #[.slice (ptr (some k5)) ws.length ws.length] 90 :: rowP 57 1 (some k5) ws.length ws.length (u64s (curL s.data.toList ws 0)) :: blk k2 #[.string (strB (s.data.toList.drop 0))] 9 :: Γ)) ?_).mono ?_
  · unfold pack_places
    exact Alloc.t h5 fun k1 w8 h8 => ⟨k1, rfl, h8⟩
  · rintro e w8 ⟨v, he, k1, rfl, h8⟩
    refine ⟨_, he, ?_⟩
    refine RangeP.t (by kernel_rfl) h8 (N := ws.sum) (arg := placeA ws)
      (Inv := fun m Γm => Γm = blk k1 #[.slice (ptr g2) ws.length c2] 93 :: blk k8 #[.slice (ptr (some k5)) ws.length ws.length] 90 :: rowP 57 1 (some k5) ws.length ws.length (u64s (curL s.data.toList ws m)) :: blk k2 #[.string (strB (s.data.toList.drop m))] 9 :: Γ)
      rfl ?_ ?_ ?_
    · intro yv J hJ hc W hW
      refine places_spec hv (J := J) (g := g2) (cap := c2) (fun m W hm => ?_) hc W hW
      obtain ⟨Γk, x, y, rfl, h⟩ := hJ m W hm
      exact ⟨h.ld (by repeat (first | exact List.Mem.head _ | refine List.Mem.tail _ ?_)) rfl, T.readsW h (by repeat (first | exact hm2 | refine List.mem_cons_of_mem _ ?_))⟩
    · rintro obf l d m Γk W Φ hm rfl hW hΦ
      obtain ⟨i, k, x, hx, hk, rfl⟩ := placeL_inv ws 0 m hm
      have hx8 := hv.at hx
      have hil : i < ws.length := (List.getElem?_eq_some_iff.1 hx).1
      rw [placeA_get hx hk]
      refine ⟨_, _, rfl, ?_⟩
      refine RoundP.t hW (G := fun Γ' => Γ' = ob d (.deferred (some [])) :: blk k1 #[.slice (ptr g2) ws.length c2] 93 :: blk k8 #[.slice (ptr (some k5)) ws.length ws.length] 90 :: rowP 57 1 (some k5) ws.length ws.length (u64s (curL s.data.toList ws (wsum ws i + k + 1))) :: blk k2 #[.string (strB (s.data.toList.drop (wsum ws i + k + 1)))] 9 :: Γ) ?_ ?_
      · rintro Γ' w' rfl h'
        exact hΦ _ w' rfl h'
      · intro K X R w9 h9 hK
        have hb : s.data.toList[wsum ws i + k]? = some (s.data.toList[wsum ws i + k]'(by omega)) := by simp [hlen, hm]
        generalize s.data.toList[wsum ws i + k]'(by omega) = b at hb
        have hd0 : (s.data.toList.drop (wsum ws i + k)).getD 0 0 = b := by simp [List.getD, hb]
        have hdl : (strB (s.data.toList.drop (wsum ws i + k))).size = ws.sum - (wsum ws i + k) := by rw [strB_size, List.length_drop, hlen]
        obtain ⟨hst, hlt⟩ := curP_step hx hk hb
        have hbb := b.toNat_lt
        have hp : (256 : Nat) ^ k = 2 ^ (8 * k) := by rw [Nat.pow_mul]
        rw [hp] at hst hlt
        have hval : curP s.data.toList ws (wsum ws i + k) i + b.toNat * 2 ^ (8 * k) < 18446744073709551616 := by
          have h1 : b.toNat * 2 ^ (8 * k) ≤ 255 * 2 ^ (8 * k) := Nat.mul_le_mul_right _ (by omega)
          have h2 : (2 : Nat) ^ (8 * k) ≤ 2 ^ 56 := Nat.pow_le_pow_right (by decide) (by omega)
          have h3 : (2 : Nat) ^ 56 = 72057594037927936 := by decide
          omega
        have hwr : IntKind.u64.wrap (IntKind.u64.wrap ((b.toNat : Nat) : Int) * 2 ^ (min ((8 * k : Nat) : Int).toNat 64)) = ((b.toNat * 2 ^ (8 * k) : Nat) : Int) := by
          rw [Int.toNat_natCast, Nat.min_eq_left (by omega)]
          have e1 : IntKind.u64.wrap ((b.toNat : Nat) : Int) = ((b.toNat : Nat) : Int) := by rw [wrapU64]; omega
          have e2 : ((b.toNat : Nat) : Int) * 2 ^ (8 * k) = ((b.toNat * 2 ^ (8 * k) : Nat) : Int) := by push_cast; rfl
          rw [e1, e2, wrapU64]; omega
        have hor := or64 hlt hval
        refine ⟨fun w => T F w0 w _, h9.drew, _, _, _, fun w h => h.ld (by repeat (first | exact List.Mem.head _ | refine List.Mem.tail _ ?_)) rfl, _, rfl, by omega, by omega, (curP s.data.toList ws (wsum ws i + k) i : Int), fun w h => ?_, _, fun w h => h.ld (by repeat (first | exact List.Mem.head _ | refine List.Mem.tail _ ?_)) rfl, ((b.toNat : Nat) : Int), fun w h => ?_, by omega, _, rfl, by omega, by omega, ?_⟩
        · obtain ⟨b', hb', _, hc⟩ := T.cell1 h (e := 57) (g := some k5) (n := ws.length) (cap := ws.length) (i := i) (by repeat (first | exact List.Mem.head _ | refine List.Mem.tail _ ?_)) (u64s_get (curL_get s.data.toList ws (wsum ws i + k) hil))
          cases hb'
          rw [Int.toNat_natCast]; exact hc
        · have := index_str (P := Tryz.prog) (t := 9) (k := .i64) (n := 0) (s := strB (s.data.toList.drop (wsum ws i + k))) (w := w) (by kernel_rfl) (by omega) (by rw [hdl]; omega)
          rw [this]
          congr 4
        · rw [hwr, hor, ← hst, Int.toNat_natCast, addr_add, Nat.zero_add, Nat.mul_one]
          refine StRow.t h9.drew (.tail (.tail (.tail (.tail .head)))) (by rw [u64s_len, curL_len]; exact hil) rfl fun w10 h10 => ?_
          rw [curL_step s.data.toList hx hk] at h10
          refine ⟨_, h10.ld (by repeat (first | exact List.Mem.head _ | refine List.Mem.tail _ ?_)) rfl, _, _, slice_from (by kernel_rfl) (by omega) (by rw [hdl]; omega), ?_⟩
          have hex : (strB (s.data.toList.drop (wsum ws i + k))).extract (1 : Int).toNat (strB (s.data.toList.drop (wsum ws i + k))).size = strB (s.data.toList.drop (wsum ws i + k + 1)) := by
            rw [strB_extract, strB_size, List.drop_drop, List.take_of_length_le (by simp; omega)]
            rfl
          rw [hex]
          refine St.t h10 (by repeat (first | exact Turn.head | apply Turn.tail)) (by simp) (by rfl) rfl fun w11 h11 => hK _ w11 rfl ?_
          exact h11.swap (Pick.perm (.tail (.tail (.tail (.tail .head))))).symm
    · rintro d Γ' w' rfl h'
      rw [curL_all] at h'
      refine ⟨_, _, _, h'.ld (by repeat (first | exact List.Mem.head _ | refine List.Mem.tail _ ?_)) rfl, ?_⟩
      refine shut_mark (Q := fun w2 => ∃ b, (Value.tuple #[.slice (ptr (some k5)) ws.length ws.length, .int .i64 0]) = .tuple #[.slice (ptr (some b)) ws.length ws.length, .int .i64 0] ∧ T F w0 w2 (rowP 57 1 (some b) ws.length ws.length (u64s (decP s.data.toList ws)) :: Γ)) h' fun w2 h2 => ⟨k5, rfl, T.dropAt h2.drop.drop (.tail .head)⟩
end Go.Proofs.YtbecjmfcppginaaGreat
end
section
/-! record: parts and records as values; placed, loaded, May. -/
namespace Go.Proofs.YtbecjmfcppginaaGreat
open Go.Sh Go.RowKit
set_option linter.unusedVariables false
set_option linter.unusedSimpArgs false
set_option maxRecDepth 20000
set_option maxHeartbeats 1000000
/-- a part of a record -/
structure RP where
  col : Int
  off : Int
  data : List UInt8
deriving DecidableEq
def rpC (x : RP) : Array Value := #[.int .i64 x.col, .int .i64 x.off, .string (strB x.data)]
def rpL (l : List RP) : List Value := l.flatMap fun x => (rpC x).toList
theorem rpL_len (l : List RP) : (rpL l).length = l.length * 3 := by
  induction l with
  | nil => rfl
  | cons x l ih => simp [rpL, rpC] at ih ⊢; omega
theorem rpL_get {l : List RP} {j : Nat} {x : RP} (h : l[j]? = some x) {m : Nat} {v : Value} (hv : (rpC x)[m]? = some v) : (rpL l)[j * 3 + m]? = some v := by
  have hm : m < 3 := (Array.getElem?_eq_some_iff.1 hv).1
  induction l generalizing j with
  | nil => simp at h
  | cons y l ih =>
    have e : rpL (y :: l) = (rpC y).toList ++ rpL l := rfl
    rw [e]
    cases j with
    | zero =>
      obtain rfl : y = x := by simpa using h
      rw [Nat.zero_mul, Nat.zero_add, List.getElem?_append_left (by show m < 3; exact hm)]
      simpa using hv
    | succ j =>
      rw [List.getElem?_append_right (by show 3 ≤ _; omega)]
      have : (j + 1) * 3 + m - (rpC y).toList.length = j * 3 + m := by show (j + 1) * 3 + m - 3 = _; omega
      rw [this]
      exact ih (by simpa using h)
/-- the parts that a slice's value shows -/
def partsAt (w : World) (p : Option Addr) (l : List RP) : Prop := (l ≠ [] → ∃ a, p = some a) ∧ ∀ a, p = some a → ∀ (j : Nat) (x : RP), l[j]? = some x → ∀ (m : Nat) (v : Value), (rpC x)[m]? = some v → w.cell? ((a.add (j * 3)).add m) = some v
theorem partsAt.ext {w w' : World} {p : Option Addr} {l : List RP} (h : partsAt w p l) (hx : Ext w w') : partsAt w' p l := ⟨h.1, fun a ha j x hj m v hv => cell_ext hx (h.2 a ha j x hj m v hv)⟩
theorem partsAt.nil (w : World) : partsAt w none [] := ⟨fun h => absurd rfl h, fun a ha => by cases ha⟩
theorem partsAt.get {w : World} {p : Option Addr} {l : List RP} (h : partsAt w p l) {n : Nat} (hn : n < l.length) : ∃ a, p = some a ∧ w.cell? (a.add (n * 3)) = some (.int .i64 (l[n]).col) ∧ w.cell? ((a.add (n * 3)).add 1) = some (.int .i64 (l[n]).off) ∧ w.cell? ((a.add (n * 3)).add 2) = some (.string (strB (l[n]).data)) := by
  obtain ⟨a, rfl⟩ := h.1 (fun e => by rw [e] at hn; simp at hn)
  have h2 := h.2 a rfl n l[n] (List.getElem?_eq_getElem hn)
  refine ⟨a, rfl, ?_, h2 1 _ rfl, h2 2 _ rfl⟩
  have := h2 0 _ rfl
  have hz : ∀ b : Addr, b.add 0 = b := fun b => by simp [Addr.add]
  rw [hz] at this; exact this
theorem T.parts {F : List Nat} {w0 w : World} {Γ : List A} {g : Option Nat} {n cap : Nat} {l : List RP} (hT : T F w0 w Γ) (hm : rowP 71 3 g n cap (rpL l) ∈ Γ) : partsAt w (ptr g) l ∧ l.length = n ∧ n ≤ cap := by
  have hh := hT.says hm
  have hn : l.length = n := by have := rowP.len hh; rw [rpL_len] at this; omega
  refine ⟨⟨fun hne => ?_, fun a ha j x hj m v hv => ?_⟩, hn, hh.2.1⟩
  · have : 0 < l.length := List.length_pos_iff.2 hne
    obtain ⟨b, rfl⟩ := rowP.pos hh (by omega)
    exact ⟨_, rfl⟩
  · cases g with
    | none => cases ha
    | some b =>
      cases ha
      rw [addr_add, addr_add, Nat.zero_add]
      exact rowP.cell hh (rpL_get hj hv)
def PlacedR (row : Int) (l : List RP) : Prop := 0 ≤ row ∧ row < 256 ∧ 1 ≤ l.length ∧ l.length ≤ 40 ∧ (∀ x ∈ l, 0 ≤ x.col ∧ x.col < 10 ∧ 0 ≤ x.off ∧ x.off < 4) ∧ (l.map fun x => (x.col, x.off)).Nodup
def LoadedR (l : List RP) : Prop := ∀ x ∈ l, x.data.length = 64
instance (row : Int) (l : List RP) : Decidable (PlacedR row l) := by unfold PlacedR; infer_instance
instance (l : List RP) : Decidable (LoadedR l) := by unfold LoadedR; infer_instance
def rcC (seq : Nat) (row : Int) (p : Option Addr) (n c : Nat) : Array Value := #[.int .u64 (seq : Int), .int .i64 row, .slice p n c]
theorem St3.t {F : List Nat} {w0 w : World} {Γ : List A} {k : Nat} {t : TypeId} {y : RP} {K : World → Prop} (hT : T F w0 w (blk k #[.int .i64 0, .int .i64 0, .string (ByteArray.mk #[])] t :: Γ)) (hK : ∀ w', T F w0 w' (blk k (rpC y) t :: Γ) → K w') :
    St ⟨k, 0, none⟩ (.int .i64 y.col) w fun w1 => St ⟨k, 1, none⟩ (.int .i64 y.off) w1 fun w2 => St ⟨k, 2, none⟩ (.string (strB y.data)) w2 K :=
  St.t (c' := #[.int .i64 y.col, .int .i64 0, .string (ByteArray.mk #[])]) hT .head (show 0 < 3 by decide) rfl rfl fun w1 h1 => St.t (c' := #[.int .i64 y.col, .int .i64 y.off, .string (ByteArray.mk #[])]) h1 .head (show 1 < 3 by decide) rfl rfl fun w2 h2 => St.t (c' := rpC y) h2 .head (show 2 < 3 by decide) rfl rfl hK
theorem map_take_next {l : List RP} {i : Nat} (h : i < l.length) : (l.take (i + 1)).map (fun x => (x.col, x.off)) = (l.take i).map (fun x => (x.col, x.off)) ++ [((l[i]).col, (l[i]).off)] := by
  rw [List.take_add_one, List.getElem?_eq_getElem h, List.map_append]; rfl
theorem placed_spec {seq : Nat} {row : Int} {p : Option Addr} {c : Nat} {l : List RP} {w : World} (H : partsAt w p l) (hl : l.length ≤ 1000000) : Ret Tryz.prog 104 #[.agg (rcC seq row p l.length c)] w (.bool (decide (PlacedR row l))) := by
  refine ret_of (record_Record_placed_calls ?_)
  unfold record_Record_placed
  refine Alloc.t (T.nil w) fun k1 w1 h1 => ?_
  have bad : ∀ {w' : World}, Ext w w' → ¬ PlacedR row l → RetR w (.bool (decide (PlacedR row l))) (.bool false) w' := fun hx hn => ⟨by rw [decide_eq_false hn], hx⟩
  refine ⟨_, h1.ld (b := k1) (i := 1) (by repeat (first | exact List.Mem.head _ | refine List.Mem.tail _ ?_)) rfl, dec_t fun h => bad h1.chg.ext (fun hp => by have := hp.1; omega), dec_f fun r0 => ?_⟩
  refine ⟨_, h1.ld (b := k1) (i := 1) (by repeat (first | exact List.Mem.head _ | refine List.Mem.tail _ ?_)) rfl, dec_t fun h => bad h1.chg.ext (fun hp => by have := hp.2.1; omega), dec_f fun r256 => ?_⟩
  refine ⟨_, _, _, h1.ld (b := k1) (i := 2) (by repeat (first | exact List.Mem.head _ | refine List.Mem.tail _ ?_)) rfl, beq_t fun h => bad h1.chg.ext (fun hp => by have := hp.2.2.1; omega), beq_f fun l0 => ?_⟩
  refine ⟨_, _, _, h1.ld (b := k1) (i := 2) (by repeat (first | exact List.Mem.head _ | refine List.Mem.tail _ ?_)) rfl, dec_t fun h => bad h1.chg.ext (fun hp => by have := hp.2.2.2.1; omega), dec_f fun l40 => ?_⟩
  refine AllocM.t h1 fun k27 w2 h2 => ⟨_, _, _, h2.ld (b := k1) (i := 2) (by repeat (first | exact List.Mem.head _ | refine List.Mem.tail _ ?_)) rfl, ?_⟩
  have h2 : T [] w w2 (mapPr k27 [] :: [blk k1 (rcC seq row p l.length c) 95]) := h2
  refine ⟨fun vs w' => ∃ i : Nat, vs = [.int .i64 (i : Int)] ∧ i ≤ l.length ∧ (∀ x ∈ l.take i, 0 ≤ x.col ∧ x.col < 10 ∧ 0 ≤ x.off ∧ x.off < 4) ∧ ((l.take i).map fun x => (x.col, x.off)).Nodup ∧ T [] w w' (mapPr k27 ((l.take i).map fun x => (x.col, x.off)) :: [blk k1 (rcC seq row p l.length c) 95]), fun vs _ => match vs with | [.int _ i] => (l.length - i).toNat | _ => 0, ⟨0, rfl, by omega, by simp, by simp, h2⟩, ?_⟩
  rintro vs w3 ⟨i, rfl, hi, hr, hnd, h3⟩
  refine ⟨_, rfl, dec_t fun hlt => ?_, dec_f fun hge => ?_⟩
  · have hlt : i < l.length := by omega
    obtain ⟨a, rfl, c0, c1, c2⟩ := (H.ext h3.chg.ext).get hlt
    have hmem : l[i] ∈ l := List.getElem_mem hlt
    have hms : ((l.length : Int) - IntKind.i64.wrap ((i : Int) + 1)).toNat < ((l.length : Int) - (i : Int)).toNat := by rw [wrap64 _ (by omega) (by omega)]; omega
    have hnx : IntKind.i64.wrap ((i : Int) + 1) = ((i + 1 : Nat) : Int) := by rw [wrap64 _ (by omega) (by omega)]; omega
    have hnext := map_take_next hlt
    generalize hx : l[i] = x at c0 c1 c2 hmem hnext
    refine ⟨a, rfl, by omega, by omega, x.col, x.off, strB x.data, ⟨by rw [Int.toNat_natCast]; exact c0, by rw [Int.toNat_natCast]; exact c1, by rw [Int.toNat_natCast]; exact c2⟩, ?_⟩
    refine Alloc.t h3 fun k5 w4 h4 => St3.t h4 fun w7 h7 => ⟨_, h7.ld (b := k5) (c := rpC x) (by repeat (first | exact List.Mem.head _ | refine List.Mem.tail _ ?_)) rfl, _, h7.ld (b := k5) (c := rpC x) (i := 1) (by repeat (first | exact List.Mem.head _ | refine List.Mem.tail _ ?_)) rfl, ?_⟩
    refine Alloc.t h7 fun k6 w8 h8 => St.t (c := #[.int .i64 0, .int .i64 0]) (c' := #[.int .i64 x.col, .int .i64 0]) h8 .head (show 0 < 2 by decide) rfl rfl fun w9 h9 => St.t (c' := #[.int .i64 x.col, .int .i64 x.off]) h9 .head (show 1 < 2 by decide) rfl rfl fun w10 h10 => ?_
    refine ⟨_, h10.ld (b := k5) (c := rpC x) (by repeat (first | exact List.Mem.head _ | refine List.Mem.tail _ ?_)) rfl, dec_t fun h => bad h10.chg.ext (fun hp => by have := hp.2.2.2.2.1 x hmem; omega), dec_f fun q1 => ?_⟩
    refine ⟨_, h10.ld (b := k5) (c := rpC x) (by repeat (first | exact List.Mem.head _ | refine List.Mem.tail _ ?_)) rfl, dec_t fun h => bad h10.chg.ext (fun hp => by have := hp.2.2.2.2.1 x hmem; omega), dec_f fun q2 => ?_⟩
    refine ⟨_, h10.ld (b := k5) (c := rpC x) (i := 1) (by repeat (first | exact List.Mem.head _ | refine List.Mem.tail _ ?_)) rfl, dec_t fun h => bad h10.chg.ext (fun hp => by have := hp.2.2.2.2.1 x hmem; omega), dec_f fun q3 => ?_⟩
    refine ⟨_, h10.ld (b := k5) (c := rpC x) (i := 1) (by repeat (first | exact List.Mem.head _ | refine List.Mem.tail _ ?_)) rfl, dec_t fun h => bad h10.chg.ext (fun hp => by have := hp.2.2.2.2.1 x hmem; omega), dec_f fun q4 => ?_⟩
    refine ⟨_, _, ⟨h10.ld (b := k6) (by repeat (first | exact List.Mem.head _ | refine List.Mem.tail _ ?_)) rfl, h10.ld (b := k6) (i := 1) (by repeat (first | exact List.Mem.head _ | refine List.Mem.tail _ ?_)) rfl⟩, _, w10, lookup_pr h10 (k := (x.col, x.off)) (b := k27) (l := (l.take i).map fun x => (x.col, x.off)) (by repeat (first | exact List.Mem.head _ | refine List.Mem.tail _ ?_)), ?_⟩
    by_cases hin : (x.col, x.off) ∈ (l.take i).map fun x => (x.col, x.off)
    · refine yes (decide_eq_true hin) (bad h10.chg.ext fun hp => ?_)
      have hd := hp.2.2.2.2.2
      have h1 : ((l.take (i + 1)).map fun x => (x.col, x.off)).Nodup := List.Nodup.sublist ((List.take_sublist _ _).map _) hd
      rw [hnext, List.nodup_append] at h1
      exact h1.2.2 _ hin _ List.mem_cons_self rfl
    · refine no (decide_eq_false hin) ⟨_, _, ⟨h10.ld (b := k6) (by repeat (first | exact List.Mem.head _ | refine List.Mem.tail _ ?_)) rfl, h10.ld (b := k6) (i := 1) (by repeat (first | exact List.Mem.head _ | refine List.Mem.tail _ ?_)) rfl⟩, ?_⟩
      obtain ⟨w12, hr12, h12⟩ := update_pr h10 hin (Γ' := _) (.tail (.tail .head))
      refine ⟨w12, hr12, ⟨i + 1, by rw [hnx], by omega, fun y hy => ?_, ?_, ?_⟩, hms⟩
      · rw [List.take_add_one, List.getElem?_eq_getElem hlt] at hy
        rcases List.mem_append.1 hy with hy | hy
        · exact hr y hy
        · have : y = x := by rw [hx] at hy; simpa using hy
          rw [this]; omega
      · rw [hnext, List.nodup_append]
        exact ⟨hnd, by simp, fun u hu v hv e => by
          have : v = (x.col, x.off) := by simpa using hv
          rw [e, this] at hu
          exact hin hu⟩
      · rw [hnext]
        exact T.drop (T.drop h12)
  · have hie : i = l.length := by omega
    subst hie
    rw [List.take_length] at hr hnd
    exact ⟨by rw [decide_eq_true ⟨by omega, by omega, by omega, by omega, hr, hnd⟩], h3.chg.ext⟩
theorem loaded_spec {seq : Nat} {row : Int} {p : Option Addr} {c : Nat} {l : List RP} {w : World} (H : partsAt w p l) (hl : l.length ≤ 1000000) : Ret Tryz.prog 105 #[.agg (rcC seq row p l.length c)] w (.bool (decide (LoadedR l))) := by
  refine ret_of (record_Record_loaded_calls ?_)
  unfold record_Record_loaded
  refine Alloc.t (T.nil w) fun k1 w1 h1 => ⟨_, _, _, h1.ld (b := k1) (i := 2) (by repeat (first | exact List.Mem.head _ | refine List.Mem.tail _ ?_)) rfl, ?_⟩
  refine ⟨fun vs w' => ∃ i : Nat, vs = [.int .i64 (i : Int)] ∧ i ≤ l.length ∧ (∀ x ∈ l.take i, x.data.length = 64) ∧ Ext w w', fun vs _ => match vs with | [.int _ i] => (l.length - i).toNat | _ => 0, ⟨0, rfl, by omega, by simp, h1.chg.ext⟩, ?_⟩
  rintro vs w3 ⟨i, rfl, hi, hr, hx3⟩
  refine ⟨_, rfl, dec_t fun hlt => ?_, dec_f fun hge => ?_⟩
  · have hlt : i < l.length := by omega
    obtain ⟨a, rfl, c0, c1, c2⟩ := (H.ext hx3).get hlt
    have hmem : l[i] ∈ l := List.getElem_mem hlt
    generalize hx : l[i] = x at c0 c1 c2 hmem
    refine ⟨a, rfl, by omega, by omega, x.col, x.off, strB x.data, ⟨by rw [Int.toNat_natCast]; exact c0, by rw [Int.toNat_natCast]; exact c1, by rw [Int.toNat_natCast]; exact c2⟩, ?_⟩
    refine Alloc.t ((T.nil w).quiet hx3) fun k4 w4 h4 => St3.t h4 fun w7 h7 => ⟨_, h7.ld (b := k4) (c := rpC x) (i := 2) (by repeat (first | exact List.Mem.head _ | refine List.Mem.tail _ ?_)) rfl, bne_t fun hne => ?_, bne_f fun heq => ⟨⟨i + 1, ?_, by omega, fun y hy => ?_, h7.chg.ext⟩, ?_⟩⟩
    · rw [strB_size] at hne
      exact ⟨by rw [decide_eq_false fun hp => by have := hp x hmem; omega], h7.chg.ext⟩
    · rw [wrap64 _ (by omega) (by omega)]; rfl
    · rw [strB_size] at heq
      rw [List.take_add_one, List.getElem?_eq_getElem hlt] at hy
      rcases List.mem_append.1 hy with hy | hy
      · exact hr y hy
      · have : y = x := by rw [hx] at hy; simpa using hy
        rw [this]; omega
    · show ((l.length : Int) - IntKind.i64.wrap ((i : Int) + 1)).toNat < ((l.length : Int) - (i : Int)).toNat
      rw [wrap64 _ (by omega) (by omega)]; omega
  · have hie : i = l.length := by omega
    subst hie
    rw [List.take_length] at hr
    exact ⟨by rw [decide_eq_true (p := LoadedR l) hr], hx3⟩
theorem rmay12_spec {seq : Nat} {row : Int} {p : Option Addr} {c : Nat} {l : List RP} {w : World} (H : partsAt w p l) (hl : l.length ≤ 1000000) : Ret Tryz.prog 90 #[.agg (rcC seq row p l.length c)] w (.bool (decide (PlacedR row l) && decide (LoadedR l))) := by
  refine ret_of (record_May_calls ?_)
  unfold record_May
  refine Alloc.t (T.nil w) fun k1 w1 h1 => ⟨_, _, _, _, _, ⟨h1.ld (b := k1) (c := rcC seq row p l.length c) (by repeat (first | exact List.Mem.head _ | refine List.Mem.tail _ ?_)) rfl, h1.ld (b := k1) (c := rcC seq row p l.length c) (i := 1) (by repeat (first | exact List.Mem.head _ | refine List.Mem.tail _ ?_)) rfl, h1.ld (b := k1) (c := rcC seq row p l.length c) (i := 2) (by repeat (first | exact List.Mem.head _ | refine List.Mem.tail _ ?_)) rfl⟩, ?_⟩
  refine (placed_spec (seq := seq) (c := c) (H.ext h1.chg.ext) hl).mono fun e w2 ⟨he, hx2⟩ => ⟨_, he, fun hp => ?_, fun hp => ⟨by rw [hp]; rfl, h1.chg.ext.trans hx2⟩⟩
  have h2 := h1.quiet hx2
  refine ⟨_, _, _, _, _, ⟨h2.ld (b := k1) (c := rcC seq row p l.length c) (by repeat (first | exact List.Mem.head _ | refine List.Mem.tail _ ?_)) rfl, h2.ld (b := k1) (c := rcC seq row p l.length c) (i := 1) (by repeat (first | exact List.Mem.head _ | refine List.Mem.tail _ ?_)) rfl, h2.ld (b := k1) (c := rcC seq row p l.length c) (i := 2) (by repeat (first | exact List.Mem.head _ | refine List.Mem.tail _ ?_)) rfl⟩, ?_⟩
  exact (loaded_spec (seq := seq) (row := row) (c := c) (H.ext h2.chg.ext) hl).mono fun e w3 ⟨he, hx3⟩ => ⟨_, he, by rw [hp, Bool.true_and], h2.chg.ext.trans hx3⟩
end Go.Proofs.YtbecjmfcppginaaGreat
end
section
/-! record: packed, head. -/
namespace Go.Sh
open Go.RowKit
theorem T.back {F : List Nat} {w0 w : World} {Γ Δ : List A} (h : T F w0 w (Δ ++ Γ)) : T F w0 w Γ := by
  induction Δ with
  | nil => exact h
  | cons a Δ ih => exact ih (T.drop h)
theorem T.front {F : List Nat} {w0 w : World} {Γ Δ : List A} (h : T F w0 w (Γ ++ Δ)) : T F w0 w Γ := T.back (h.swap List.perm_append_comm)
/-- one thing, out of a block of its own, is put behind a row -/
theorem pushM {P : Program} {F : List Nat} {w0 w : World} {Γ Δ : List A} {t e : TypeId} {i : TypeInfo} {z v : Value} (ht : P.underlying t = some (.slice e)) (hi : P.info? e = some i) (hz : i.zero = some z) (hsize : i.size = 1) (hzs : z.cells.size = 1) (hby : decide (i.bytes ≤ 1000000) = true)
    {g : Option Nat} {n cap k : Nat} {xs : List Value} (hT : T F w0 w Γ) (hm : blk k #[v] e ∈ Γ) (hk : Pick (rowP e 1 g n cap xs) Γ Δ) (hv : v.oneCell' = true) (hn : n ≤ 1000000) :
    ∃ g' cap' w', (builtin .append #[t, t] t #[false, false] #[.slice (ptr g) n cap, .slice (some ⟨k, 0, none⟩) 1 1]).run P w = .ok (.value (.slice (ptr g') (n + 1) cap')) w' ∧ T F w0 w' (rowP e 1 g' (n + 1) cap' (xs ++ [v]) :: Δ) := by
  have hby' : i.bytes ≤ 1000000 := of_decide_eq_true hby
  have hmul : (n + 1) * i.bytes ≤ 1000001 * 1000000 := Nat.mul_le_mul (by omega) hby'
  exact append_t (ty := t) #[false, false] ht hi hz hsize hzs hT hk (a := ⟨k, 0, none⟩) (m := 1) (c := 1) (news := [v]) rfl (fun j u hu => by
    rw [addr_add, Nat.zero_add]
    refine hT.ld hm ?_
    simpa using hu) (fun u hu => by
    rw [List.mem_singleton.1 hu]; exact hv) (by simp only [maxLen]; omega) (by omega)
end Go.Sh
namespace Go.Proofs.YtbecjmfcppginaaGreat
open Go.Sh Go.RowKit
set_option linter.unusedVariables false
set_option linter.unusedSimpArgs false
set_option maxRecDepth 20000
set_option maxHeartbeats 2000000
def flatP (l : List (Nat × Nat)) : List Nat := l.flatMap fun x => [x.1, x.2]
theorem flatP_len (l : List (Nat × Nat)) : (flatP l).length = 2 * l.length := by
  induction l with
  | nil => rfl
  | cons x l ih => simp [flatP] at ih ⊢; omega
theorem flatP_get {l : List (Nat × Nat)} {j : Nat} {x : Nat × Nat} (h : l[j]? = some x) : (flatP l)[2 * j]? = some x.1 ∧ (flatP l)[2 * j + 1]? = some x.2 := by
  induction l generalizing j with
  | nil => simp at h
  | cons y l ih =>
    have e : flatP (y :: l) = y.1 :: y.2 :: flatP l := rfl
    rw [e]
    cases j with
    | zero =>
      obtain rfl : y = x := by simpa using h
      exact ⟨rfl, rfl⟩
    | succ j =>
      have := ih (j := j) (by simpa using h)
      rw [show 2 * (j + 1) = 2 * j + 1 + 1 by omega]
      exact this
theorem u64s_snoc (l : List Nat) (x : Nat) : u64s l ++ [.int .u64 (x : Int)] = u64s (l ++ [x]) := by simp [u64s]
theorem ints_snoc (l : List Nat) (x : Nat) : ints l ++ [.int .i64 (x : Int)] = ints (l ++ [x]) := by simp [ints]
theorem packed_spec {prs : List (Nat × Nat)} (hv : Wid (prs.map (·.2))) (hf : ∀ x ∈ prs, x.1 < 256 ^ x.2) {b c n : Nat} (hn : n = 2 * prs.length) {w : World} (H : ∀ (j x : Nat), (flatP prs)[j]? = some x → w.cell? ⟨b, j, none⟩ = some (.int .u64 (x : Int))) :
    Ret Tryz.prog 111 #[.slice (some ⟨b, 0, none⟩) n c] w (.string (strB (encP (prs.map (·.1)) (prs.map (·.2))))) := by
  subst hn
  refine ret_of (record_packed_calls ?_)
  unfold record_packed
  have h64 := hv.1
  rw [List.length_map] at h64
  have h0 : T [] w w [rowP 57 1 none 0 0 (u64s []), rowP 3 1 none 0 0 (ints [])] := ((T.nil w).nilRow 3 1).nilRow 57 1
  refine ⟨fun vs w' => ∃ (i : Nat) (g1 g2 : Option Nat) (c1 c2 : Nat), vs = [.slice (ptr g1) i c1, .slice (ptr g2) i c2, .int .i64 ((2 * i : Nat) : Int)] ∧ i ≤ prs.length ∧ T [] w w' [rowP 57 1 g1 i c1 (u64s ((prs.take i).map (·.1))), rowP 3 1 g2 i c2 (ints ((prs.take i).map (·.2)))], fun vs _ => match vs with | [_, _, .int _ i] => (2 * prs.length - i).toNat | _ => 0, ⟨0, none, none, 0, 0, rfl, by omega, h0⟩, ?_⟩
  rintro vs w1 ⟨i, g1, g2, c1, c2, rfl, hi, h1⟩
  have e1 : IntKind.i64.wrap (((2 * i : Nat) : Int) + 1) = ((2 * i + 1 : Nat) : Int) := by rw [wrap64 _ (by omega) (by omega)]; omega
  refine ⟨_, _, _, _, _, _, _, rfl, ?_⟩
  rw [e1]
  refine ⟨dec_t fun hlt => ?_, dec_f fun hge => ?_⟩
  · have hlt : i < prs.length := by omega
    have e2 : IntKind.i64.wrap (((2 * i : Nat) : Int) + 2) = ((2 * (i + 1) : Nat) : Int) := by rw [wrap64 _ (by omega) (by omega)]; omega
    rw [e2]
    have hx : prs[i]? = some prs[i] := List.getElem?_eq_getElem hlt
    have hmem : prs[i] ∈ prs := List.getElem_mem hlt
    obtain ⟨f1, f2⟩ := flatP_get hx
    have t1 : (prs.take (i + 1)).map (·.1) = (prs.take i).map (·.1) ++ [(prs[i]).1] := by rw [List.take_add_one, hx, List.map_append]; rfl
    have t2 : (prs.take (i + 1)).map (·.2) = (prs.take i).map (·.2) ++ [(prs[i]).2] := by rw [List.take_add_one, hx, List.map_append]; rfl
    have hw8 := hv.2 (prs[i]).2 (List.mem_map.2 ⟨_, hmem, rfl⟩)
    generalize prs[i] = x at f1 f2 t1 t2 hw8
    have e3 : IntKind.i64.wrap (x.2 : Int) = (x.2 : Int) := wrap64 _ (by omega) (by omega)
    have cell : ∀ (j y : Nat), (flatP prs)[j]? = some y → ∀ w', Ext w w' → w'.cell? (Addr.add ⟨b, 0, none⟩ ((j : Int).toNat * 1)) = some (.int .u64 (y : Int)) := fun j y hj w' hx => by
      rw [addr_add, Nat.zero_add, Nat.mul_one, Int.toNat_natCast]
      exact cell_ext hx (H j y hj)
    have fin : ∀ (w' : World) (Γ Δ : List A) (g1' g2' : Option Nat) (c1' c2' : Nat), T [] w w' Γ → Γ.Perm ([rowP 57 1 g1' (i + 1) c1' (u64s ((prs.take i).map (·.1)) ++ [.int .u64 (x.1 : Int)]), rowP 3 1 g2' (i + 1) c2' (ints ((prs.take i).map (·.2)) ++ [.int .i64 (x.2 : Int)])] ++ Δ) →
        (∃ (j : Nat) (g1 g2 : Option Nat) (c1 c2 : Nat), ([.slice (ptr g1') (i + 1) c1', .slice (ptr g2') (i + 1) c2', .int .i64 ((2 * (i + 1) : Nat) : Int)] : List Value) = [.slice (ptr g1) j c1, .slice (ptr g2) j c2, .int .i64 ((2 * j : Nat) : Int)] ∧ j ≤ prs.length ∧ T [] w w' [rowP 57 1 g1 j c1 (u64s ((prs.take j).map (·.1))), rowP 3 1 g2 j c2 (ints ((prs.take j).map (·.2)))]) ∧
        ((2 * prs.length : Int) - ((2 * (i + 1) : Nat) : Int)).toNat < ((2 * prs.length : Int) - ((2 * i : Nat) : Int)).toNat := by
      intro w' Γ Δ g1' g2' c1' c2' hT hp
      refine ⟨⟨i + 1, g1', g2', c1', c2', rfl, by omega, ?_⟩, by omega⟩
      have := T.front (hT.swap hp)
      rw [u64s_snoc, ints_snoc, ← t1, ← t2] at this
      exact this
    refine ⟨fun w' => Ext w w', h1.drew.chg.ext, ⟨b, 0, none⟩, rfl, by omega, by omega, _, fun w' h' => cell _ _ f1 w' h', ⟨b, 0, none⟩, rfl, by omega, by omega, _, fun w' h' => cell _ _ f2 w' h', ?_, ?_⟩
    · refine Alloc.t h1.drew fun k20 w2 h2 => ⟨h2.chg.ext, ?_, ?_⟩
      · obtain ⟨g1', c1', w3, hr3, h3⟩ := pushM (P := Tryz.prog) (t := 90) (i := Tryz.t57) (z := .int .u64 0) (v := .int .u64 (x.1 : Int)) (k := k20) (by kernel_rfl) (by kernel_rfl) (by kernel_rfl) (by kernel_rfl) (by kernel_rfl) (by kernel_rfl) h2 List.mem_cons_self (.tail .head) rfl (by omega)
        refine ⟨_, _, _, w3, hr3, h3.chg.ext, ?_⟩
        rw [e3]
        refine Alloc.t h3 fun k29 w4 h4 => ⟨h4.chg.ext, ?_⟩
        obtain ⟨g2', c2', w5, hr5, h5⟩ := pushM (P := Tryz.prog) (t := 93) (i := Tryz.t3) (z := .int .i64 0) (v := .int .i64 (x.2 : Int)) (k := k29) (by kernel_rfl) (by kernel_rfl) (by kernel_rfl) (by kernel_rfl) (by kernel_rfl) (by kernel_rfl) h4 List.mem_cons_self (.tail (.tail (.tail .head))) rfl (by omega)
        exact ⟨_, _, _, w5, hr5, h5.chg.ext, fin w5 _ _ _ _ _ _ h5 (List.perm_middle (l₁ := [_, _]))⟩
      · rw [e3]
        refine Alloc.t h2 fun k29 w6 h6 => ⟨h6.chg.ext, ?_⟩
        obtain ⟨g1', c1', w7, hr7, h7⟩ := pushM (P := Tryz.prog) (t := 90) (i := Tryz.t57) (z := .int .u64 0) (v := .int .u64 (x.1 : Int)) (k := k20) (by kernel_rfl) (by kernel_rfl) (by kernel_rfl) (by kernel_rfl) (by kernel_rfl) (by kernel_rfl) h6 (List.mem_cons_of_mem _ List.mem_cons_self) (.tail (.tail .head)) rfl (by omega)
        refine ⟨_, _, _, w7, hr7, h7.chg.ext, ?_⟩
        obtain ⟨g2', c2', w8, hr8, h8⟩ := pushM (P := Tryz.prog) (t := 93) (i := Tryz.t3) (z := .int .i64 0) (v := .int .i64 (x.2 : Int)) (k := k29) (by kernel_rfl) (by kernel_rfl) (by kernel_rfl) (by kernel_rfl) (by kernel_rfl) (by kernel_rfl) h7 (List.mem_cons_of_mem _ List.mem_cons_self) (.tail (.tail (.tail .head))) rfl (by omega)
        exact ⟨_, _, _, w8, hr8, h8.chg.ext, fin w8 _ _ _ _ _ _ h8 (.swap _ _ _)⟩
    · rw [e3]
      refine Alloc.t h1.drew fun k29 w9 h9 => ⟨h9.chg.ext, ?_⟩
      refine Alloc.t h9 fun k20 w10 h10 => ⟨h10.chg.ext, ?_⟩
      obtain ⟨g1', c1', w11, hr11, h11⟩ := pushM (P := Tryz.prog) (t := 90) (i := Tryz.t57) (z := .int .u64 0) (v := .int .u64 (x.1 : Int)) (k := k20) (by kernel_rfl) (by kernel_rfl) (by kernel_rfl) (by kernel_rfl) (by kernel_rfl) (by kernel_rfl) h10 List.mem_cons_self (.tail (.tail .head)) rfl (by omega)
      refine ⟨_, _, _, w11, hr11, h11.chg.ext, ?_⟩
      obtain ⟨g2', c2', w12, hr12, h12⟩ := pushM (P := Tryz.prog) (t := 93) (i := Tryz.t3) (z := .int .i64 0) (v := .int .i64 (x.2 : Int)) (k := k29) (by kernel_rfl) (by kernel_rfl) (by kernel_rfl) (by kernel_rfl) (by kernel_rfl) (by kernel_rfl) h11 (List.mem_cons_of_mem _ (List.mem_cons_of_mem _ List.mem_cons_self)) (.tail (.tail (.tail .head))) rfl (by omega)
      exact ⟨_, _, _, w12, hr12, h12.chg.ext, fin w12 _ _ _ _ _ _ h12 (.swap _ _ _)⟩
  · have hie : i = prs.length := by omega
    subst hie
    rw [List.take_length] at h1
    refine (encode_spec (ns := prs.map (·.1)) (ws := prs.map (·.2)) hv (by simp) (fun i n x hn hx => ?_) h1 (g1 := g1) (g2 := g2) (n1 := prs.length) (n2 := prs.length) (c1 := c1) (c2 := c2) (by simp) (by simp) (by repeat (first | exact List.Mem.head _ | refine List.Mem.tail _ ?_)) (by repeat (first | exact List.Mem.head _ | refine List.Mem.tail _ ?_))).mono fun e w13 ⟨he, h13⟩ => ⟨_, _, he, rfl, h13.chg.ext⟩
    rw [List.getElem?_map] at hn hx
    cases hp : prs[i]? with
    | none => rw [hp] at hn; cases hn
    | some y =>
      rw [hp] at hn hx
      cases hn; cases hx
      exact hf y (List.mem_of_getElem? hp)
end Go.Proofs.YtbecjmfcppginaaGreat
end
section
/-! record: a record's head. -/
namespace Go.Proofs.YtbecjmfcppginaaGreat
open Go.Sh Go.RowKit
set_option linter.unusedVariables false
set_option linter.unusedSimpArgs false
set_option maxRecDepth 20000
set_option maxHeartbeats 1000000
def magJ : List UInt8 := [82, 86, 84, 74]
def plB (x : RP) : UInt8 := UInt8.ofNat (4 * x.col.toNat + x.off.toNat)
def prsR (seq : Nat) (row : Int) (n : Nat) (sum : B32) : List (Nat × Nat) := [(seq, 8), (row.toNat, 2), (n, 1), (sum.toNat, 4)]
def frontR (seq : Nat) (row : Int) (n : Nat) (sum : B32) : List UInt8 := magJ ++ encP [seq, row.toNat, n, sum.toNat] [8, 2, 1, 4]
theorem wid4 : Wid [8, 2, 1, 4] := ⟨by decide, by decide⟩
theorem wid_prsR (seq : Nat) (row : Int) (n : Nat) (sum : B32) : Wid ((prsR seq row n sum).map (·.2)) := wid4
theorem flat_prsR (seq : Nat) (row : Int) (n : Nat) (sum : B32) : flatP (prsR seq row n sum) = [seq, 8, row.toNat, 2, n, 1, sum.toNat, 4] := rfl
/-- a record's head -/
def headR (seq : Nat) (row : Int) (l : List RP) (sum : B32) : List UInt8 := sealB (frontR seq row l.length sum ++ l.map plB) 64
theorem frontR_len (seq : Nat) (row : Int) (n : Nat) (sum : B32) : (frontR seq row n sum).length = 19 := by
  unfold frontR
  rw [List.length_append, encP_len [seq, row.toNat, n, sum.toNat] [8, 2, 1, 4] rfl]; rfl
theorem headR_len {seq : Nat} {row : Int} {l : List RP} {sum : B32} (h : l.length ≤ 40) : (headR seq row l sum).length = 64 := sealB_len (by rw [List.length_append, frontR_len, List.length_map]; omega)
theorem plB_val {x : RP} (h : 0 ≤ x.col ∧ x.col < 10 ∧ 0 ≤ x.off ∧ x.off < 4) : IntKind.u8.wrap (bits2 .or .i64 (IntKind.i64.wrap (x.col * 2 ^ 2)) x.off) = ((plB x).toNat : Int) := by
  obtain ⟨c, hc⟩ : ∃ c : Fin 10, x.col = (c.1 : Int) := ⟨⟨x.col.toNat, by omega⟩, by show x.col = ((x.col.toNat : Nat) : Int); omega⟩
  obtain ⟨o, ho⟩ : ∃ o : Fin 4, x.off = (o.1 : Int) := ⟨⟨x.off.toNat, by omega⟩, by show x.off = ((x.off.toNat : Nat) : Int); omega⟩
  unfold plB
  rw [hc, ho, Int.toNat_natCast, Int.toNat_natCast]
  have key : ∀ (c : Fin 10) (o : Fin 4), IntKind.u8.wrap (bits2 .or .i64 (IntKind.i64.wrap (((c.1 : Nat) : Int) * 2 ^ 2)) ((o.1 : Nat) : Int)) = ((UInt8.ofNat (4 * c.1 + o.1)).toNat : Int) := by decide +kernel
  exact key c o
theorem head_spec {seq : Nat} {row : Int} {p : Option Addr} {c : Nat} {l : List RP} {sum : B32} {w : World} (hs : seq < 2 ^ 64) (hP : PlacedR row l) (H : partsAt w p l) : Ret Tryz.prog 91 #[.agg (rcC seq row p l.length c), u32v sum] w (.string (strB (headR seq row l sum))) := by
  refine ret_of (record_Record_head_calls ?_)
  unfold record_Record_head
  have hr0 := hP.1
  have hr1 := hP.2.1
  have hl40 := hP.2.2.2.1
  refine Alloc.t (T.nil w) fun k2 w1 h1 => Alloc.t h1 fun k5 w2 h2 => ?_
  have h2 : T [] w w2 (bldL k5 false none 0 [] ++ [blk k2 (rcC seq row p l.length c) 95]) := (T.nilRow h2 5 1).swap (.swap _ _ _)
  have eJ : (ByteArray.mk #[82, 86, 84, 74]) = strB magJ := rfl
  rw [eJ]
  refine (writeString_spec h2 magJ (by simp [magJ])).mono fun e w3 ⟨he3, g3, c3, h3⟩ => ⟨_, _, he3, ?_⟩
  rw [List.nil_append] at h3
  have mm : ∀ {w' : World} {g : Option Nat} {cc : Nat} {bs : List UInt8}, T [] w w' (bldL k5 true g cc bs ++ [blk k2 (rcC seq row p l.length c) 95]) → blk k2 (rcC seq row p l.length c) 95 ∈ (bldL k5 true g cc bs ++ [blk k2 (rcC seq row p l.length c) 95]) := fun _ => by simp
  refine ⟨_, h3.ld (b := k2) (c := rcC seq row p l.length c) (mm h3) rfl, _, h3.ld (b := k2) (c := rcC seq row p l.length c) (i := 1) (mm h3) rfl, _, _, _, h3.ld (b := k2) (c := rcC seq row p l.length c) (i := 2) (mm h3) rfl, ?_⟩
  have e1 : IntKind.u64.wrap row = ((row.toNat : Nat) : Int) := by rw [wrapU64]; omega
  have e2 : IntKind.u64.wrap (l.length : Int) = (l.length : Int) := by rw [wrapU64]; omega
  have e3 : IntKind.u64.wrap ((sum.toNat : Nat) : Int) = (sum.toNat : Int) := by have := b32_lt sum; rw [wrapU64]; omega
  rw [e1, e2, e3]
  refine Alloc.t h3 fun k22 w4 h4 => ?_
  have hcells : ∀ (j x : Nat), (flatP (prsR seq row l.length sum))[j]? = some x → w4.cell? ⟨k22, j, none⟩ = some (.int .u64 (x : Int)) := fun j x hj => by
    refine h4.ld (b := k22) List.mem_cons_self ?_
    rw [flat_prsR] at hj
    have hj8 : j < 8 := (List.getElem?_eq_some_iff.1 hj).1
    match j, hj8 with
    | 0, _ => cases hj; rfl
    | 1, _ => cases hj; rfl
    | 2, _ => cases hj; rfl
    | 3, _ => cases hj; rfl
    | 4, _ => cases hj; rfl
    | 5, _ => cases hj; rfl
    | 6, _ => cases hj; rfl
    | 7, _ => cases hj; rfl
  have hwid : Wid ((prsR seq row l.length sum).map (·.2)) := wid_prsR seq row l.length sum
  have hfit : ∀ x ∈ prsR seq row l.length sum, x.1 < 256 ^ x.2 := fun x hx => by
    have s4 := sum.isLt
    have q8 : (256 : Nat) ^ 8 = 2 ^ 64 := by decide
    have q4 : (256 : Nat) ^ 4 = 2 ^ 32 := by decide
    simp only [prsR, List.mem_cons, List.not_mem_nil, or_false] at hx
    rcases hx with rfl | rfl | rfl | rfl
    · show seq < 256 ^ 8; omega
    · show row.toNat < 256 ^ 2; omega
    · show l.length < 256 ^ 1; omega
    · show sum.toNat < 256 ^ 4; omega
  obtain ⟨sP, hsP, hpl, hfr⟩ : ∃ sP, encP ((prsR seq row l.length sum).map (·.1)) ((prsR seq row l.length sum).map (·.2)) = sP ∧ sP.length = 15 ∧ magJ ++ sP = frontR seq row l.length sum := ⟨_, rfl, encP_len [seq, row.toNat, l.length, sum.toNat] [8, 2, 1, 4] rfl, by unfold frontR; rfl⟩
  have hpk := packed_spec (prs := prsR seq row l.length sum) (n := 8) (c := 8) hwid hfit rfl hcells
  rw [hsP] at hpk
  refine hpk.mono fun e w5 ⟨he5, hx5⟩ => ⟨_, he5, ?_⟩
  have h5 : T [] w w5 (bldL k5 true g3 c3 magJ ++ [blk k2 (rcC seq row p l.length c) 95]) := (h4.quiet hx5).drop
  refine (writeString_spec h5 sP (by rw [hpl]; simp [magJ])).mono fun e w6 ⟨he6, g6, c6, h6⟩ => ⟨_, _, he6, ?_⟩
  rw [hfr] at h6
  have hfl := frontR_len seq row l.length sum
  refine ⟨_, _, _, h6.ld (b := k2) (c := rcC seq row p l.length c) (i := 2) (mm h6) rfl, ?_⟩
  refine ⟨fun vs w' => ∃ (i : Nat) (g : Option Nat) (cc : Nat), vs = [.int .i64 (i : Int)] ∧ i ≤ l.length ∧ T [] w w' (bldL k5 true g cc (frontR seq row l.length sum ++ (l.take i).map plB) ++ [blk k2 (rcC seq row p l.length c) 95]), fun vs _ => match vs with | [.int _ i] => (l.length - i).toNat | _ => 0, ⟨0, g6, c6, rfl, by omega, by simpa using h6⟩, ?_⟩
  rintro vs w7 ⟨i, g, cc, rfl, hi, h7⟩
  refine ⟨_, rfl, dec_t fun hlt => ?_, dec_f fun hge => ?_⟩
  · have hlt : i < l.length := by omega
    obtain ⟨a, rfl, q0, q1, q2⟩ := (H.ext h7.chg.ext).get hlt
    have hmem : l[i] ∈ l := List.getElem_mem hlt
    have hnext : (l.take (i + 1)).map plB = (l.take i).map plB ++ [plB l[i]] := by rw [List.take_add_one, List.getElem?_eq_getElem hlt, List.map_append]; rfl
    generalize l[i] = x at q0 q1 q2 hmem hnext
    refine ⟨a, rfl, by omega, by omega, x.col, x.off, strB x.data, ⟨by rw [Int.toNat_natCast]; exact q0, by rw [Int.toNat_natCast]; exact q1, by rw [Int.toNat_natCast]; exact q2⟩, ?_⟩
    refine Alloc.t h7 fun k7 w8 h8 => St3.t h8 fun w11 h11 => ⟨_, h11.ld (b := k7) (c := rpC x) List.mem_cons_self rfl, _, h11.ld (b := k7) (c := rpC x) (i := 1) List.mem_cons_self rfl, ?_⟩
    rw [plB_val (hP.2.2.2.2.1 x hmem)]
    refine (writeByte_spec h11.drop (plB x) (by rw [List.length_append, hfl, List.length_map, List.length_take]; omega)).mono fun e w12 ⟨he12, g12, c12, h12⟩ => ⟨_, he12, ⟨i + 1, g12, c12, ?_, by omega, ?_⟩, ?_⟩
    · rw [wrap64 _ (by omega) (by omega)]; rfl
    · rw [hnext, ← List.append_assoc]; exact h12
    · show ((l.length : Int) - IntKind.i64.wrap ((i : Int) + 1)).toNat < ((l.length : Int) - (i : Int)).toNat
      rw [wrap64 _ (by omega) (by omega)]; omega
  · have hie : i = l.length := by omega
    subst hie
    rw [List.take_length] at h7
    refine (bstring_spec h7).mono fun e w13 ⟨he13, hx13⟩ => ⟨_, he13, ?_⟩
    refine (seal_spec (strB (frontR seq row l.length sum ++ l.map plB)) 64 (by rw [strB_size, List.length_append, hfl, List.length_map]; omega) (by omega) w13).mono fun e w14 ⟨he14, hx14⟩ => ⟨_, _, he14, rfl, hx13.trans hx14⟩
end Go.Proofs.YtbecjmfcppginaaGreat
end
section
/-! record: Encode. -/
namespace Go.Sh
open Go.RowKit
/-- one thing of some cells is put behind a row -/
theorem pushN_t {P : Program} {F : List Nat} {w0 w : World} {Γ Δ : List A} {t e : TypeId} {i : TypeInfo} {z : Value} {c : Array Value} {size : Nat} (ht : P.underlying t = some (.slice e)) (hi : P.info? e = some i) (hz : i.zero = some z) (hsize : i.size = size) (hzs : z.cells.size = size) (hby : decide (i.bytes ≤ 1000000) = true)
    {g : Option Nat} {n cap : Nat} {xs : List Value} (hT : T F w0 w Γ) (hk : Pick (rowP e size g n cap xs) Γ Δ) (hc : c.size = size) (hv : ∀ u ∈ c.toList, u.oneCell' = true) (hn : n ≤ 1000000) {K : Option Addr → Nat → Nat → World → Prop} (hK : ∀ g' cap' w', T F w0 w' (rowP e size g' (n + 1) cap' (xs ++ c.toList) :: Δ) → K (ptr g') (n + 1) cap' w') :
    Alloc c e w fun k w1 => ∃ (p : Option Addr) (l c : Nat), ∃ w2, (builtin .append #[t, t] t #[false, false] #[.slice (ptr g) n cap, .slice (some ⟨k, 0, none⟩) 1 1]).run P w1 = .ok (.value (.slice p l c)) w2 ∧ K p l c w2 := by
  refine Alloc.t hT fun k w1 hT1 => ?_
  have hby' : i.bytes ≤ 1000000 := of_decide_eq_true hby
  have hmul : (n + 1) * i.bytes ≤ 1000001 * 1000000 := Nat.mul_le_mul (by omega) hby'
  obtain ⟨g', cap', w', hr, hT'⟩ := append_t (ty := t) #[false, false] ht hi hz hsize hzs hT1 (.tail hk) (a := ⟨k, 0, none⟩) (m := 1) (c := 1) (news := c.toList) (by rw [Array.length_toList, hc, Nat.one_mul]) (fun j u hu => by
      rw [addr_add, Nat.zero_add]
      exact hT1.ld List.mem_cons_self (by simpa using hu)) hv (by simp only [maxLen]; omega) (by omega)
  refine ⟨_, _, _, w', hr, hK _ _ _ ?_⟩
  exact T.drop (T.swap hT' (.swap _ _ _))
end Go.Sh
namespace Go.Proofs.YtbecjmfcppginaaGreat
open Go.Sh Go.RowKit
set_option linter.unusedVariables false
set_option linter.unusedSimpArgs false
set_option maxRecDepth 20000
set_option maxHeartbeats 1000000
def strV (L : List (List UInt8)) : List Value := L.map fun x => .string (strB x)
def datas (l : List RP) : List (List UInt8) := l.map (·.data)
theorem datas_len (l : List RP) : (datas l).length = l.length := List.length_map ..
theorem datas_flat {l : List RP} (h : LoadedR l) : (datas l).flatten.length = 64 * l.length := by
  induction l with
  | nil => rfl
  | cons x l ih =>
    have e : (datas (x :: l)).flatten = x.data ++ (datas l).flatten := rfl
    rw [e, List.length_append, ih fun y hy => h y (List.mem_cons_of_mem _ hy), h x List.mem_cons_self, List.length_cons]; omega
def sumR (l : List RP) : B32 := crcSum (datas l).flatten
variable {F : List Nat} {w0 w : World} {Γ : List A}
theorem rencode_bad_p (hT : T F w0 w Γ) {seq : Nat} {row : Int} {p : Option Addr} {c : Nat} {l : List RP} (hp : ∀ (w' : World) (Δ : List A), T F w0 w' (Δ ++ Γ) → partsAt w' p l) (hl : l.length ≤ 1000000) (hn : ¬ (PlacedR row l ∧ LoadedR l)) :
    Calls Tryz.prog 59 #[.agg (rcC seq row p l.length c)] w fun e w' => e = .returned (.tuple #[.string (ByteArray.mk #[]), .slice none 0 0, .int .i64 1]) ∧ T F w0 w' Γ := by
  refine (record_Encode_calls (R := fun v w' => v = .tuple #[.string (ByteArray.mk #[]), .slice none 0 0, .int .i64 1] ∧ T F w0 w' Γ) ?_).mono fun e w' ⟨v, he, hv, h⟩ => ⟨by rw [he, hv], h⟩
  unfold record_Encode
  refine Alloc.t hT fun k1 w1 h1 => ⟨_, _, _, _, _, ⟨h1.ld (b := k1) (c := rcC seq row p l.length c) List.mem_cons_self rfl, h1.ld (b := k1) (c := rcC seq row p l.length c) (i := 1) List.mem_cons_self rfl, h1.ld (b := k1) (c := rcC seq row p l.length c) (i := 2) List.mem_cons_self rfl⟩, ?_⟩
  refine (rmay12_spec (seq := seq) (row := row) (c := c) (hp w1 [_] h1) hl).mono fun e w2 ⟨he, hx2⟩ => ⟨_, he, yes ?_ ⟨rfl, (h1.quiet hx2).drop⟩⟩
  by_cases hp : PlacedR row l
  · rw [decide_eq_true hp, decide_eq_false fun hq => hn ⟨hp, hq⟩]; rfl
  · rw [decide_eq_false hp]; rfl
theorem rencode_bad (hT : T F w0 w Γ) {seq : Nat} {row : Int} {g : Option Nat} {c : Nat} {l : List RP} (hm : rowP 71 3 g l.length c (rpL l) ∈ Γ) (hl : l.length ≤ 1000000) (hn : ¬ (PlacedR row l ∧ LoadedR l)) :
    Calls Tryz.prog 59 #[.agg (rcC seq row (ptr g) l.length c)] w fun e w' => e = .returned (.tuple #[.string (ByteArray.mk #[]), .slice none 0 0, .int .i64 1]) ∧ T F w0 w' Γ := rencode_bad_p hT (fun w' Δ h => (T.parts h (List.mem_append_right _ hm)).1) hl hn
theorem rencode_good_p (hT : T F w0 w Γ) {seq : Nat} {row : Int} {p : Option Addr} {c : Nat} {l : List RP} (hs : seq < 2 ^ 64) (hp : ∀ (w' : World) (Δ : List A), T F w0 w' (Δ ++ Γ) → partsAt w' p l) (hP : PlacedR row l) (hL : LoadedR l) :
    Calls Tryz.prog 59 #[.agg (rcC seq row p l.length c)] w fun e w' => ∃ g' cap, e = .returned (.tuple #[.string (strB (headR seq row l (sumR l))), .slice (ptr g') l.length cap, .int .i64 0]) ∧ T F w0 w' (rowP 9 1 g' l.length cap (strV (datas l)) :: Γ) := by
  refine (record_Encode_calls (R := fun v w' => ∃ g' cap, v = .tuple #[.string (strB (headR seq row l (sumR l))), .slice (ptr g') l.length cap, .int .i64 0] ∧ T F w0 w' (rowP 9 1 g' l.length cap (strV (datas l)) :: Γ)) ?_).mono fun e w' ⟨v, he, g', cap, hv, h⟩ => ⟨g', cap, by rw [he, hv], h⟩
  unfold record_Encode
  have hl40 := hP.2.2.2.1
  have hfl := datas_flat hL
  have rd : ∀ {w' : World} {Δ : List A} {k1 : Nat}, T F w0 w' Δ → blk k1 (rcC seq row p l.length c) 95 ∈ Δ → w'.cell? ⟨k1, 0, none⟩ = some (.int .u64 (seq : Int)) ∧ w'.cell? ⟨k1, 1, none⟩ = some (.int .i64 row) ∧ w'.cell? ⟨k1, 2, none⟩ = some (.slice p l.length c) := fun h hm => ⟨h.ld (c := rcC seq row p l.length c) hm rfl, h.ld (c := rcC seq row p l.length c) (i := 1) hm rfl, h.ld (c := rcC seq row p l.length c) (i := 2) hm rfl⟩
  refine Alloc.t hT fun k1 w1 h1 => ⟨_, _, _, _, _, rd h1 List.mem_cons_self, ?_⟩
  refine (rmay12_spec (seq := seq) (row := row) (c := c) (hp w1 [_] h1) (by omega)).mono fun e w2 ⟨he, hx2⟩ => ⟨_, he, no (by rw [decide_eq_true hP, decide_eq_true hL]; rfl) ?_⟩
  have h2 := h1.quiet hx2
  refine ⟨_, _, _, (rd h2 List.mem_cons_self).2.2, ?_⟩
  refine ⟨fun vs w' => ∃ (i : Nat) (g' : Option Nat) (cap : Nat), vs = [.slice (ptr g') i cap, .int .i64 (i : Int)] ∧ i ≤ l.length ∧ T F w0 w' (rowP 9 1 g' i cap (strV (datas (l.take i))) :: blk k1 (rcC seq row p l.length c) 95 :: Γ), fun vs _ => match vs with | [_, .int _ i] => (l.length - i).toNat | _ => 0, ⟨0, none, 0, rfl, by omega, T.nilRow h2 _ _⟩, ?_⟩
  rintro vs w3 ⟨i, g3, c3, rfl, hi, h3⟩
  refine ⟨_, _, _, _, rfl, dec_t fun hlt => ?_, dec_f fun hge => ?_⟩
  · have hlt : i < l.length := by omega
    obtain ⟨a, ha, q0, q1, q2⟩ := (hp w3 [_, _] h3).get hlt
    have hnext : strV (datas (l.take (i + 1))) = strV (datas (l.take i)) ++ [.string (strB (l[i]).data)] := by
      rw [List.take_add_one, List.getElem?_eq_getElem hlt]
      show ((l.take i ++ [l[i]]).map (·.data)).map (fun x => Value.string (strB x)) = _
      rw [List.map_append, List.map_append]; rfl
    generalize l[i] = x at q0 q1 q2 hnext
    refine ⟨a, ha, by omega, by omega, x.col, x.off, strB x.data, ⟨by rw [Int.toNat_natCast]; exact q0, by rw [Int.toNat_natCast]; exact q1, by rw [Int.toNat_natCast]; exact q2⟩, ?_⟩
    refine Alloc.t h3 fun k7 w4 h4 => St3.t h4 fun w7 h7 => ⟨_, h7.ld (b := k7) (c := rpC x) (i := 2) List.mem_cons_self rfl, ?_⟩
    refine push1_t (P := Tryz.prog) (t := 42) (i := Tryz.t9) (z := .string (ByteArray.mk #[])) (v := .string (strB x.data)) (by kernel_rfl) (by kernel_rfl) (by kernel_rfl) (by kernel_rfl) (by kernel_rfl) (by kernel_rfl) h7.drop .head rfl (by omega) fun g9 c9 w9 h9 => ⟨⟨i + 1, g9, c9, ?_, by omega, ?_⟩, ?_⟩
    · rw [wrap64 _ (by omega) (by omega)]; rfl
    · rw [hnext]; exact h9
    · show ((l.length : Int) - IntKind.i64.wrap ((i : Int) + 1)).toNat < ((l.length : Int) - (i : Int)).toNat
      rw [wrap64 _ (by omega) (by omega)]; omega
  · have hie : i = l.length := by omega
    subst hie
    rw [List.take_length] at h3
    refine ⟨fun w' => T F w0 w' (rowP 9 1 g3 l.length c3 (strV (datas l)) :: blk k1 (rcC seq row p l.length c) 95 :: Γ), h3.drew, _, _, _, _, _, fun w' h' => rd h' (List.mem_cons_of_mem _ List.mem_cons_self), ?_⟩
    refine (join_spec (L := datas l) h3.drew List.mem_cons_self (by rw [datas_len]; omega) (by omega)).mono fun e w10 ⟨he10, hx10⟩ => ⟨_, he10, h3.drew.quiet hx10, ?_⟩
    have h10 := h3.drew.quiet hx10
    refine (sum_spec (strB (datas l).flatten) (by rw [strB_size]; omega) w10).mono fun e w11 ⟨he11, hx11⟩ => ⟨_, he11, h10.quiet hx11, ?_⟩
    have h11 := h10.quiet hx11
    refine (head_spec (seq := seq) (row := row) (c := c) (sum := sumR l) hs hP (hp w11 [_, _] h11)).mono fun e w12 ⟨he12, hx12⟩ => ⟨_, he12, h11.quiet hx12, g3, c3, rfl, T.dropAt (h11.quiet hx12) (.tail .head)⟩
theorem rencode_good (hT : T F w0 w Γ) {seq : Nat} {row : Int} {g : Option Nat} {c : Nat} {l : List RP} (hs : seq < 2 ^ 64) (hm : rowP 71 3 g l.length c (rpL l) ∈ Γ) (hP : PlacedR row l) (hL : LoadedR l) :
    Calls Tryz.prog 59 #[.agg (rcC seq row (ptr g) l.length c)] w fun e w' => ∃ g' cap, e = .returned (.tuple #[.string (strB (headR seq row l (sumR l))), .slice (ptr g') l.length cap, .int .i64 0]) ∧ T F w0 w' (rowP 9 1 g' l.length cap (strV (datas l)) :: Γ) := rencode_good_p hT hs (fun w' Δ h => (T.parts h (List.mem_append_right _ hm)).1) hP hL
end Go.Proofs.YtbecjmfcppginaaGreat
end
section
/-! A row of bytes that a conversion of a text laid. -/
namespace Go.Proofs.YtbecjmfcppginaaGreat
open Go.Sh Go.RowKit
set_option linter.unusedVariables false
set_option maxRecDepth 20000
set_option maxHeartbeats 1000000
def rowZ (e : TypeId) (k n : Nat) (xs : List Value) : A where
  foot := [k]
  holds h := xs.length = n ∧ ∃ (cur : Array Value) (m : Nat), h k = some (.cells cur e (m, m + 1)) ∧ n ≤ m ∧ n ≤ cur.size ∧ cur.toList.take n = xs
  loc := by
    intro h h' he hh
    obtain ⟨h1, cur, m, h2, h3⟩ := hh
    exact ⟨h1, cur, m, (he k (by simp)).trans h2, h3⟩
theorem rowZ.cell {w : World} {e : TypeId} {k n i : Nat} {xs : List Value} {v : Value} (hh : (rowZ e k n xs).holds (hp w)) (hi : xs[i]? = some v) : w.cell? ⟨k, i, none⟩ = some v := by
  obtain ⟨h1, cur, m, h2, _, _, h3⟩ := hh
  have h2 : w.heap[k]? = some (.cells cur e (m, m + 1)) := h2
  rw [← h3, List.getElem?_take] at hi
  split at hi
  · simpa [World.cell?, h2] using hi
  · cases hi
theorem StZ.t {F : List Nat} {w0 w : World} {Γ Δ : List A} {e : TypeId} {k n i : Nat} {xs : List Value} {v : Value} {K : World → Prop} (hT : T F w0 w Γ) (hk : Pick (rowZ e k n xs) Γ Δ) (hi : i < n) (hv : scalar v = true)
    (h : ∀ w', T F w0 w' (rowZ e k n (xs.set i v) :: Δ) → K w') : St ⟨k, i, none⟩ v w K := by
  have hT1 := hT.pick hk
  obtain ⟨h1, cur, m, h4, h5, h6, h7⟩ := hT1.says List.mem_cons_self
  have h4 : w.heap[k]? = some (.cells cur e (m, m + 1)) := h4
  have hb : k < w.heap.size := lt_of_heap h4
  have hs : (w.setCell ⟨k, i, none⟩ v).heap[k]? = some (.cells (cur.setIfInBounds i v) e (m, m + 1)) := by
    show (w.heap.modify k _)[k]? = _
    rw [Array.getElem?_modify, if_pos rfl, h4]
    simp
  refine ⟨⟨cur[i], by simp [World.cell?, h4]⟩, by simp [World.frozen?, h4]; omega, hv, h _ (hT1.turn rfl rfl ?_ (fun c hc hn => setBlock_other fun e => hn (by simp [rowZ, e])) (by simp [rowZ]) ?_ ?_)⟩
  · show w.heap.size ≤ (w.heap.modify k _).size
    rw [Array.size_modify]; exact Nat.le_refl _
  · intro c hc
    obtain rfl : c = k := by simpa [rowZ] using hc
    refine ⟨?_, .inl (by simp [rowZ])⟩
    show c < (w.heap.modify c _).size
    rw [Array.size_modify]; exact hb
  · refine ⟨by simpa using h1, _, m, hs, h5, by simpa using h6, ?_⟩
    rw [← h7, Array.toList_setIfInBounds, List.take_set]
theorem bytes_t {F : List Nat} {w0 w : World} {Γ : List A} (hT : T F w0 w Γ) (s : ByteArray) :
    ∃ k cap w', (convert 9 44 (.string s)).run Tryz.prog w = .ok (.slice (some ⟨k, 0, none⟩) s.size cap) w' ∧ T F w0 w' (rowZ 5 k s.size (bvals s.data.toList) :: Γ) := by
  refine ⟨w.heap.size, _, _, Go.Lib.run_convert_string_bytes (P := Tryz.prog) (u := .string) w 9 44 5 s (by kernel_rfl) (by kernel_rfl) (by kernel_rfl), ?_⟩
  have hx : Ext w (Go.Lib.bytesWorld w 5 s) := ⟨rfl, rfl, by rw [Go.Lib.bytesWorld_size]; omega, fun b hb => Go.Lib.bytesWorld_at_old w 5 s b hb⟩
  have hT1 := hT.quiet hx
  have hl : s.data.toList.length = s.size := Array.length_toList
  have hz : (Go.Lib.bytesCells w 5 s).toList.take s.size = bvals s.data.toList := by
    unfold Go.Lib.bytesCells
    rw [Array.toList_append, List.take_left' (by simp)]
    simp [bvals]
  refine ⟨hT1.chg, ?_, ?_, ?_⟩
  · show (w.heap.size :: feet Γ).Nodup
    exact List.nodup_cons.2 ⟨fun hm => by have := (hT.own _ hm).1; omega, hT.nodup⟩
  · intro b hb
    rcases List.mem_cons.1 hb with rfl | hb
    · exact ⟨by rw [Go.Lib.bytesWorld_size]; omega, .inr hT.chg.size⟩
    · exact hT1.own b hb
  · intro a ha
    rcases List.mem_cons.1 ha with rfl | ha
    · refine ⟨by simp [bvals_len, hl], _, _, Go.Lib.bytesWorld_at_new w 5 s, ?_, ?_, hz⟩
      · unfold Go.Lib.bytesCells; rw [Array.size_append, Array.size_map]; exact Nat.le_add_right _ _
      · unfold Go.Lib.bytesCells; rw [Array.size_append, Array.size_map]; exact Nat.le_add_right _ _
    · exact hT1.holds a ha
theorem row_stringZ {F : List Nat} {w0 w : World} {Γ : List A} {k n cap : Nat} {l : List UInt8} (hT : T F w0 w Γ) (hm : rowZ 5 k n (bvals l) ∈ Γ) : (convert 44 9 (.slice (some ⟨k, 0, none⟩) n cap)).run Tryz.prog w = .ok (.string (strB l)) w := by
  have hs := hT.says hm
  have hl : l.length = n := by have := hs.1; rw [bvals_len] at this; exact this
  have h1 := run_convert_bytes_back (P := Tryz.prog) w 44 9 5 ⟨k, 0, none⟩ cap l (by kernel_rfl) (by kernel_rfl) (by kernel_rfl) (fun j hj => by
    rw [addr_add, Nat.zero_add]
    rw [rowZ.cell hs (i := j) (v := .int .u8 (l[j]).toNat) (by rw [bvals_get, List.getElem?_eq_getElem hj]; rfl)])
  rw [hl] at h1
  exact h1
end Go.Proofs.YtbecjmfcppginaaGreat
end
section
/-! A range over a function that leaves the function; strings.Trim of one byte. -/
namespace Go.Sh
open Go.RowKit
set_option linter.unusedVariables false
theorem RoundR.t {obf : LoopState → Option Code → Obj} {l : Nat} {Φ : Value → World → Prop} {body : (World → Prop) → (Nat → World → Prop) → (World → Prop) → World → Prop} {F : List Nat} {w0 W : World} {Γ : List A}
    (hT : T F w0 W (ob l (obf .ready none) :: Γ)) {G : List A → Prop} (hΦ : ∀ Γ' w', G Γ' → T F w0 w' (ob l (obf .done (some .ret)) :: Γ') → Φ (.bool false) w')
    (hb : ∀ K X R w1, T F w0 w1 (ob l (obf .busy none) :: Γ) → (∀ Γ' w2, G Γ' → T F w0 w2 (ob l (obf .busy none) :: Γ') → R w2) → body K X R w1) : RoundP obf l Φ body W :=
  ⟨hT.got List.mem_cons_self, hb _ _ _ _ hT.putTop fun Γ' w2 hg h2 => ⟨h2.got List.mem_cons_self, hΦ Γ' _ hg h2.putTop⟩⟩
/-- the callee writes, too; the N-th round leaves the function -/
theorem RangeR.t {P : Program} {round : (LoopState → Option Code → Obj) → Nat → List Value → World → (Value → World → Prop) → Prop} {os : List (Nat × (Nat → World → Prop))} {K R : Nat → World → Prop} {f : FuncId} {first cap : Array Value} (hb : bodyB P f = true)
    {F : List Nat} {w0 w : World} {Γ : List A} (hT : T F w0 w Γ) {N : Nat} {arg : Nat → List Value} {Inv Mid : Nat → List A → Prop} {Out : List A → Prop}
    (hcallee : ∀ (yv : Value) (x y z : A), (∀ k W Γk, k < N → Inv k Γk → T F w0 W (x :: y :: Γk) → CallF P yv (arg k) W fun e w' => e = .returned (.bool true) ∧ ∃ Γ', Mid k Γ' ∧ T F w0 w' (x :: y :: Γ')) →
      (∀ W Γk, Inv N Γk → T F w0 W (x :: y :: Γk) → CallF P yv (arg N) W fun e w' => e = .returned (.bool false) ∧ ∃ Γ', Out Γ' ∧ T F w0 w' (z :: y :: Γ')) →
      ∀ W, T F w0 W (x :: y :: Γ) → Calls P f (first.toList ++ [yv] ++ cap.toList).toArray W fun e w' => (∃ v, e = .returned v) ∧ ∃ Γ', Out Γ' ∧ T F w0 w' (z :: y :: Γ'))
    (hround : ∀ (obf : LoopState → Option Code → Obj) (l d k : Nat) (Γk : List A) (W : World) (Φ : Value → World → Prop), k < N → Inv k Γk → T F w0 W (ob l (obf .ready none) :: ob d (.deferred (some [])) :: Γk) →
      (∀ Γ' w', Mid k Γ' → T F w0 w' (ob l (obf .ready none) :: ob d (.deferred (some [])) :: Γ') → Φ (.bool true) w') → round obf l (arg k) W Φ)
    (hbrk : ∀ (obf : LoopState → Option Code → Obj) (l d : Nat) (Γk : List A) (W : World) (Φ : Value → World → Prop), Inv N Γk → T F w0 W (ob l (obf .ready none) :: ob d (.deferred (some [])) :: Γk) →
      (∀ Γ' w', Out Γ' → T F w0 w' (ob l (obf .done (some .ret)) :: ob d (.deferred (some [])) :: Γ') → Φ (.bool false) w') → round obf l (arg N) W Φ)
    (hK : ∀ d Γ' w', Out Γ' → T F w0 w' (ob d (.deferred (some [])) :: Γ') → R d w') : RangeP P (.func (.func f) first cap) round os K R w := by
  intro obf hob hyield
  refine ⟨f, first, cap, rfl, hb, ?_⟩
  have hsz : (w.alloc (.deferred (some []))).heap.size = w.heap.size + 1 := by simp
  have h2 := (hT.alloc (.deferred (some []))).alloc (obf .ready none)
  rw [hsz] at h2
  refine (hcallee (.func (.yield (w.heap.size + 1)) #[] #[]) (ob (w.heap.size + 1) (obf .ready none)) (ob w.heap.size (.deferred (some []))) (ob (w.heap.size + 1) (obf .done (some .ret))) ?_ ?_ _ h2).mono ?_
  · intro k W Γk hk hi h
    show CallV P (.func (.yield (w.heap.size + 1)) #[] #[]) (arg k) W _
    exact hyield _ _ _ (h.got List.mem_cons_self) (hround obf _ w.heap.size k Γk W _ hk hi h fun Γ' w' hi' h' => ⟨rfl, Γ', hi', h'⟩)
  · intro W Γk hi h
    show CallV P (.func (.yield (w.heap.size + 1)) #[] #[]) (arg N) W _
    exact hyield _ _ _ (h.got List.mem_cons_self) (hbrk obf _ w.heap.size Γk W _ hi h fun Γ' w' hi' h' => ⟨rfl, Γ', hi', h'⟩)
  · rintro e w3 ⟨hv, Γk, hi, h⟩
    exact ⟨hv, .done, some .ret, h.got List.mem_cons_self, by simp, .inr (.inl ⟨rfl, hK _ Γk _ hi h.putTop.drop⟩)⟩
/-- the callee writes, too; all rounds go on -/
theorem RangeA.t {P : Program} {round : (LoopState → Option Code → Obj) → Nat → List Value → World → (Value → World → Prop) → Prop} {os : List (Nat × (Nat → World → Prop))} {K R : Nat → World → Prop} {f : FuncId} {first cap : Array Value} (hb : bodyB P f = true)
    {F : List Nat} {w0 w : World} {Γ : List A} (hT : T F w0 w Γ) {N : Nat} {arg : Nat → List Value} {Inv Mid : Nat → List A → Prop}
    (hcallee : ∀ (yv : Value) (x y : A), (∀ k W Γk, k < N → Inv k Γk → T F w0 W (x :: y :: Γk) → CallF P yv (arg k) W fun e w' => e = .returned (.bool true) ∧ ∃ Γ', Mid k Γ' ∧ T F w0 w' (x :: y :: Γ')) →
      ∀ W, T F w0 W (x :: y :: Γ) → Calls P f (first.toList ++ [yv] ++ cap.toList).toArray W fun e w' => (∃ v, e = .returned v) ∧ ∃ Γ', Inv N Γ' ∧ T F w0 w' (x :: y :: Γ'))
    (hround : ∀ (obf : LoopState → Option Code → Obj) (l d k : Nat) (Γk : List A) (W : World) (Φ : Value → World → Prop), k < N → Inv k Γk → T F w0 W (ob l (obf .ready none) :: ob d (.deferred (some [])) :: Γk) →
      (∀ Γ' w', Mid k Γ' → T F w0 w' (ob l (obf .ready none) :: ob d (.deferred (some [])) :: Γ') → Φ (.bool true) w') → round obf l (arg k) W Φ)
    (hK : ∀ d Γ' w', Inv N Γ' → T F w0 w' (ob d (.deferred (some [])) :: Γ') → K d w') : RangeP P (.func (.func f) first cap) round os K R w := by
  intro obf hob hyield
  refine ⟨f, first, cap, rfl, hb, ?_⟩
  have hsz : (w.alloc (.deferred (some []))).heap.size = w.heap.size + 1 := by simp
  have h2 := (hT.alloc (.deferred (some []))).alloc (obf .ready none)
  rw [hsz] at h2
  refine (hcallee (.func (.yield (w.heap.size + 1)) #[] #[]) (ob (w.heap.size + 1) (obf .ready none)) (ob w.heap.size (.deferred (some []))) ?_ _ h2).mono ?_
  · intro k W Γk hk hi h
    show CallV P (.func (.yield (w.heap.size + 1)) #[] #[]) (arg k) W _
    exact hyield _ _ _ (h.got List.mem_cons_self) (hround obf _ w.heap.size k Γk W _ hk hi h fun Γ' w' hi' h' => ⟨rfl, Γ', hi', h'⟩)
  · rintro e w3 ⟨hv, Γk, hi, h⟩
    exact ⟨hv, .ready, none, h.got List.mem_cons_self, by simp, .inl ⟨rfl, hK _ Γk _ hi h.putTop.drop⟩⟩
end Go.Sh
namespace Go.Proofs.YtbecjmfcppginaaGreat
open Go.Sh Go.RowKit
set_option linter.unusedVariables false
set_option linter.unusedSimpArgs false
set_option maxRecDepth 20000
set_option maxHeartbeats 2000000
theorem slice_mid {P : Program} {t : TypeId} {s : ByteArray} {k k' : IntKind} {lo hi : Int} {w : World} (ht : P.underlying t = some .string) (h0 : 0 ≤ lo) (h1 : lo ≤ hi) (h2 : hi ≤ (s.size : Int)) :
    (Instr.sliceAt t (.string s) (some (.int k lo)) (some (.int k' hi)) none).run P w = .ok (.string (s.extract lo.toNat hi.toNat)) w := by
  have h3 : 0 ≤ lo ∧ lo ≤ hi := ⟨h0, h1⟩
  have h4 : 0 ≤ hi ∧ hi ≤ (s.size : Int) := ⟨by omega, h2⟩
  have h5 : ¬ max hi 0 < lo := by omega
  simp [Instr.sliceAt, Instr.slice, Instr.sliceBounds, Instr.sliceBound, asIntOf, underlying_run ht, h3, h4, h5]
theorem hasPrefix_spec (l m : List UInt8) (w : World) : Ret Tryz.prog 97 #[.string (strB l), .string (strB m)] w (.bool (decide (l.take m.length = m))) := by
  refine ret_of (internal_stringslite_HasPrefix_calls ?_)
  unfold internal_stringslite_HasPrefix
  rw [strB_size, strB_size]
  refine ⟨dec_t fun hge => ?_, dec_f fun hlt => ⟨?_, Ext.refl w⟩⟩
  · have hsl := slice_to (P := Tryz.prog) (t := 9) (k := .i64) (s := strB l) (hi := (m.length : Int)) (w := w) (by kernel_rfl) (by omega) (by rw [strB_size]; omega)
    rw [strB_extract, List.drop_zero, Nat.sub_zero, Int.toNat_natCast] at hsl
    refine ⟨_, w, hsl, ?_, Ext.refl w⟩
    rw [strB_toList, strB_toList]
    by_cases h : l.take m.length = m
    · rw [decide_eq_true h, h]; simp
    · rw [decide_eq_false h]
      have : (l.take m.length == m) = false := by simpa using h
      rw [this]
  · rw [decide_eq_false]
    intro e
    have := congrArg List.length e
    rw [List.length_take] at this
    omega
def cutV (l m : List UInt8) : Value := if l.take m.length = m then .tuple #[.string (strB (l.drop m.length)), .bool true] else .tuple #[.string (strB l), .bool false]
end Go.Proofs.YtbecjmfcppginaaGreat
end
section
/-! record: Head. -/
namespace Go.Proofs.YtbecjmfcppginaaGreat
open Go.Sh Go.RowKit
set_option linter.unusedVariables false
set_option linter.unusedSimpArgs false
set_option maxRecDepth 20000
set_option maxHeartbeats 1000000
abbrev HdV : Type := Nat × Int × List RP × B32
def zH : HdV := (0, 0, [], 0#32)
def partOf (b : UInt8) : RP := ⟨((b.toNat / 4 : Nat) : Int), ((b.toNat % 4 : Nat) : Int), []⟩
def headOf (b : List UInt8) : HdV := (leN ((b.drop 4).take 8), ((leN ((b.drop 12).take 2) : Nat) : Int), (((b.take 60).drop 19).take (leN ((b.drop 14).take 1))).map partOf, BitVec.ofNat 32 (leN ((b.drop 15).take 4)))
def decH (b : List UInt8) : HdV × Int :=
  if b.length ≠ 64 then (zH, 31) else if (openB b).2 = false then (zH, 80) else if b.take 4 ≠ magJ then (zH, 81) else
  if PlacedR (headOf b).2.1 (headOf b).2.2.1 ∧ headR (headOf b).1 (headOf b).2.1 (headOf b).2.2.1 (headOf b).2.2.2 = b then (headOf b, 0) else (zH, 1)
def hdV (d : HdV × Int) (g : Option Nat) (cap : Nat) : Value := .tuple #[.agg (rcC d.1.1 d.1.2.1 (ptr g) d.1.2.2.1.length cap), u32v d.1.2.2.2, .int .i64 d.2]
theorem part_cells (b : UInt8) : IntKind.i64.wrap (Int.fdiv (b.toNat : Int) (2 ^ 2)) = ((b.toNat / 4 : Nat) : Int) ∧ IntKind.i64.wrap (bits2 .and .u8 (b.toNat : Int) 3) = ((b.toNat % 4 : Nat) : Int) := by
  have key : ∀ n : Fin 256, IntKind.i64.wrap (Int.fdiv ((n.1 : Nat) : Int) (2 ^ 2)) = ((n.1 / 4 : Nat) : Int) ∧ IntKind.i64.wrap (bits2 .and .u8 ((n.1 : Nat) : Int) 3) = ((n.1 % 4 : Nat) : Int) := by decide +kernel
  exact key ⟨b.toNat, b.toNat_lt⟩
theorem strings_hasPrefix_spec (l m : List UInt8) (w : World) : Ret Tryz.prog 65 #[.string (strB l), .string (strB m)] w (.bool (decide (l.take m.length = m))) := by
  refine ret_of (strings_HasPrefix_calls ?_)
  unfold strings_HasPrefix
  exact (hasPrefix_spec l m w).mono fun e w1 ⟨he, hx⟩ => ⟨_, he, rfl, hx⟩
theorem rpL_snoc (l : List RP) (x : RP) : rpL l ++ (rpC x).toList = rpL (l ++ [x]) := by simp [rpL]
theorem openB_take {b : List UInt8} (h64 : b.length = 64) (ho : (openB b).2 = true) : (openB b).1 = b.take 60 := by
  unfold openB at ho ⊢
  rw [h64] at ho ⊢
  rw [if_neg (by omega)] at ho ⊢
  split at ho
  · rename_i hq; rw [if_pos hq]
  · cases ho
theorem mid60 (b : List UInt8) (m n : Nat) (h : m + n ≤ 60) : (((b.take 60).drop m).take n) = (b.drop m).take n := by
  rw [List.drop_take, List.take_take, Nat.min_eq_left (by omega)]
theorem rowZ_mem_cell {F : List Nat} {w0 w : World} {Γ : List A} {e : TypeId} {k n i : Nat} {xs : List Value} {v : Value} (h : T F w0 w Γ) (hm : rowZ e k n xs ∈ Γ) (hi : xs[i]? = some v) : w.cell? (Addr.add ⟨k, 0, none⟩ (i * 1)) = some v := by
  rw [addr_add, Nat.zero_add, Nat.mul_one]
  exact rowZ.cell (h.says hm) hi
def zR : Array Value := #[.int .u64 0, .int .i64 0, .slice none 0 0]
variable {F : List Nat} {w0 w : World} {Γ : List A}
theorem dec_four (b : List UInt8) (hl : b.length = 64) : decP (strB ((b.drop 4).take 15)).data.toList [8, 2, 1, 4] = [leN ((b.drop 4).take 8), leN ((b.drop 12).take 2), leN ((b.drop 14).take 1), leN ((b.drop 15).take 4)] := by
  show [leN (((b.drop 4).take 15).take 8), leN ((((b.drop 4).take 15).drop 8).take 2), leN (((((b.drop 4).take 15).drop 8).drop 2).take 1), leN ((((((b.drop 4).take 15).drop 8).drop 2).drop 1).take 4)] = _
  simp only [List.drop_take, List.take_take, List.drop_drop]
  rfl
theorem rhead_spec (hT : T F w0 w Γ) (b : List UInt8) (hb : b.length ≤ 1000000) : Calls Tryz.prog 81 #[.string (strB b)] w fun e w' => ∃ g cap, e = .returned (hdV (decH b) g cap) ∧ T F w0 w' (rowP 71 3 g (decH b).1.2.2.1.length cap (rpL (decH b).1.2.2.1) :: Γ) := by
  refine (record_Head_calls (R := fun v w' => ∃ g cap, v = hdV (decH b) g cap ∧ T F w0 w' (rowP 71 3 g (decH b).1.2.2.1.length cap (rpL (decH b).1.2.2.1) :: Γ)) ?_).mono fun e w' ⟨v, he, g, cap, hv, h⟩ => ⟨g, cap, by rw [he, hv], h⟩
  unfold record_Head
  refine Alloc.t hT fun k2 w1 h1 => ?_
  have h1 : T F w0 w1 ([] ++ blk k2 zR 95 :: Γ) := h1
  have bad : ∀ (w' : World) (Δ : List A) (x : Int), T F w0 w' (Δ ++ blk k2 zR 95 :: Γ) → decH b = (zH, x) →
      St ⟨k2, 0, none⟩ (.int .u64 0) w' fun w2 => St ⟨k2, 1, none⟩ (.int .i64 0) w2 fun w3 => St ⟨k2, 2, none⟩ (.slice none 0 0) w3 fun w4 => ∃ nr2_0 : Int, ∃ nr2_1 : Int, ∃ (pr2_2 : Option Addr) (lr2_2 cr2_2 : Nat), (w4.cell? ⟨k2, 0, none⟩ = some (.int .u64 nr2_0) ∧ w4.cell? ⟨k2, 1, none⟩ = some (.int .i64 nr2_1) ∧ w4.cell? ⟨k2, 2, none⟩ = some (.slice pr2_2 lr2_2 cr2_2)) ∧
        ∃ g cap, (Value.tuple #[.agg #[.int .u64 nr2_0, .int .i64 nr2_1, .slice pr2_2 lr2_2 cr2_2], .int .u32 0, .int .i64 x]) = hdV (decH b) g cap ∧ T F w0 w4 (rowP 71 3 g (decH b).1.2.2.1.length cap (rpL (decH b).1.2.2.1) :: Γ) := by
    intro w' Δ x hT' hd
    have hT' := T.back hT'
    refine St.t (c := zR) (c' := zR) hT' .head (show 0 < 3 by decide) rfl rfl fun w2 h2 => St.t (c := zR) (c' := zR) h2 .head (show 1 < 3 by decide) rfl rfl fun w3 h3 => St.t (c := zR) (c' := zR) h3 .head (show 2 < 3 by decide) rfl rfl fun w4 h4 => ?_
    refine ⟨_, _, _, _, _, ⟨h4.ld (c := zR) List.mem_cons_self rfl, h4.ld (c := zR) (i := 1) List.mem_cons_self rfl, h4.ld (c := zR) (i := 2) List.mem_cons_self rfl⟩, none, 0, ?_, ?_⟩
    · rw [hd]; rfl
    · rw [hd]; exact T.nilRow h4.drop _ _
  rw [strB_size]
  refine ⟨bne_t fun hne => bad w1 [] 31 h1 (by unfold decH; rw [if_pos (by omega)]), bne_f fun heq => ?_⟩
  have h64 : b.length = 64 := by omega
  have eb : (strB b).data.toList = b := rfl
  refine (open_spec (strB b) (by rw [strB_size]; omega) w1).mono fun e w5 ⟨he5, hx5⟩ => ⟨_, _, he5, ?_⟩
  rw [eb]
  have h5 := h1.quiet hx5
  refine ⟨not_t fun ho => bad w5 [] 80 h5 (by unfold decH; rw [if_neg (by omega), if_pos ho]), not_f fun ho => ?_⟩
  rw [openB_take h64 ho]
  have hl60 : (b.take 60).length = 60 := by rw [List.length_take]; omega
  have eJ : (ByteArray.mk #[82, 86, 84, 74]) = strB magJ := rfl
  rw [eJ]
  have hpre : (b.take 60).take magJ.length = b.take 4 := by rw [List.take_take]; rfl
  refine (strings_hasPrefix_spec (b.take 60) magJ w5).mono fun e w9 ⟨he9, hx9⟩ => ⟨_, he9, ?_⟩
  rw [hpre]
  have h9 := h5.quiet hx9
  refine ⟨fun hq => bad w9 [] 81 h9 (by unfold decH; rw [if_neg (by omega), if_neg (by rw [ho]; decide), if_pos (by simpa using hq)]), fun hq => ?_⟩
  have hmag : b.take 4 = magJ := by simpa using hq
  have s1 := slice_mid (P := Tryz.prog) (t := 9) (k := .i64) (k' := .i64) (s := strB (b.take 60)) (lo := 4) (hi := 19) (w := w9) (by kernel_rfl) (by omega) (by omega) (by rw [strB_size, hl60]; omega)
  rw [strB_extract] at s1
  have e1 : (((b.take 60).drop (4 : Int).toNat).take ((19 : Int).toNat - (4 : Int).toNat)) = (b.drop 4).take 15 := mid60 b 4 15 (by omega)
  rw [e1] at s1
  refine ⟨_, w9, s1, Alloc.t h9 fun k34 w14 h14 => ?_⟩
  have h14 : T F w0 w14 (rowP 3 1 (some k34) 4 4 (ints [8, 2, 1, 4]) :: blk k2 zR 95 :: Γ) := blk_row h14 rfl rfl (by decide)
  have hl15 : ((b.drop 4).take 15).length = 15 := by rw [List.length_take, List.length_drop]; omega
  refine (decode_spec (ws := [8, 2, 1, 4]) wid4 (s := strB ((b.drop 4).take 15)) (by rw [strB_size, hl15]; rfl) h14 (g2 := some k34) (n2 := 4) (c2 := 4) rfl List.mem_cons_self).mono fun e w15 ⟨b35, he15, h15⟩ => ⟨_, _, _, _, he15, no rfl ?_⟩
  rw [dec_four b h64] at h15
  have hho : headOf b = (leN ((b.drop 4).take 8), ((leN ((b.drop 12).take 2) : Nat) : Int), (((b.take 60).drop 19).take (leN ((b.drop 14).take 1))).map partOf, BitVec.ofNat 32 (leN ((b.drop 15).take 4))) := rfl
  have bA : leN ((b.drop 4).take 8) < 2 ^ 64 := by
    have := leN_lt ((b.drop 4).take 8)
    rw [show ((b.drop 4).take 8).length = 8 by rw [List.length_take, List.length_drop]; omega] at this
    have q8 : (256 : Nat) ^ 8 = 2 ^ 64 := by decide
    omega
  have bB : leN ((b.drop 12).take 2) < 65536 := by
    have := leN_lt ((b.drop 12).take 2)
    rw [show ((b.drop 12).take 2).length = 2 by rw [List.length_take, List.length_drop]; omega] at this
    omega
  have bC : leN ((b.drop 14).take 1) < 256 := by
    have := leN_lt ((b.drop 14).take 1)
    rw [show ((b.drop 14).take 1).length = 1 by rw [List.length_take, List.length_drop]; omega] at this
    omega
  have hdec : decH b = if PlacedR (headOf b).2.1 (headOf b).2.2.1 ∧ headR (headOf b).1 (headOf b).2.1 (headOf b).2.2.1 (headOf b).2.2.2 = b then (headOf b, 0) else (zH, 1) := by
    unfold decH; rw [if_neg (by omega), if_neg (by rw [ho]; decide), if_neg (by simpa using hmag)]
  rw [hho] at hdec
  generalize leN ((b.drop 4).take 8) = nA at h15 hdec bA
  generalize leN ((b.drop 12).take 2) = nB at h15 hdec bB
  generalize leN ((b.drop 14).take 1) = nC at h15 hdec bC
  generalize leN ((b.drop 15).take 4) = nD at h15 hdec
  have hl41 : ((b.take 60).drop 19).length = 41 := by rw [List.length_drop, hl60]
  have hpbl : (((b.take 60).drop 19).take nC).length ≤ 41 := by rw [List.length_take]; omega
  have cellU : ∀ {w' : World} {Δ : List A} (j x : Nat), T F w0 w' Δ → rowP 57 1 (some b35) [8, 2, 1, 4].length [8, 2, 1, 4].length (u64s [nA, nB, nC, nD]) ∈ Δ → [nA, nB, nC, nD][j]? = some x → w'.cell? ⟨b35, j, none⟩ = some (.int .u64 (x : Int)) := fun j x h hm hj => rowP.cell (k := j) (h.says hm) (by unfold u64s; rw [List.getElem?_map, hj]; rfl)
  refine ⟨fun w' => ∃ Δ, rowP 57 1 (some b35) [8, 2, 1, 4].length [8, 2, 1, 4].length (u64s [nA, nB, nC, nD]) ∈ Δ ∧ T F w0 w' Δ, ⟨_, List.mem_cons_self, h15.drew⟩, ⟨b35, 0, none⟩, rfl, by omega, by decide, (nA : Int), fun w' ⟨Δ, hm', h'⟩ => cellU 0 nA h' hm' rfl, ⟨b35, 0, none⟩, rfl, by omega, by decide, (nB : Int), fun w' ⟨Δ, hm', h'⟩ => by rw [addr_add]; exact cellU 1 nB h' hm' rfl, ?_⟩
  refine Alloc.t h15.drew fun k9 w19 h19 => ⟨⟨_, List.mem_cons_of_mem _ List.mem_cons_self, h19⟩, ?_⟩
  have eB : IntKind.i64.wrap (nB : Int) = (nB : Int) := wrap64 _ (by omega) (by omega)
  have eC : IntKind.i64.wrap (nC : Int) = (nC : Int) := wrap64 _ (by omega) (by omega)
  have e19 : IntKind.i64.wrap (19 + (nC : Int)) = 19 + (nC : Int) := wrap64 _ (by omega) (by omega)
  rw [eB]
  refine St.t (c := zR) (c' := #[.int .u64 (nA : Int), .int .i64 0, .slice none 0 0]) h19 .head (show 0 < 3 by decide) rfl rfl fun w20 h20 => St.t (c' := #[.int .u64 (nA : Int), .int .i64 (nB : Int), .slice none 0 0]) h20 .head (show 1 < 3 by decide) rfl rfl fun w21 h21 => St.t (c' := rcC nA (nB : Int) none 0 0) h21 .head (show 2 < 3 by decide) rfl rfl fun w22 h22 => ?_
  refine ⟨⟨b35, 0, none⟩, rfl, by omega, by decide, (nC : Int), by rw [addr_add]; exact cellU 2 nC h22 (List.mem_cons_of_mem _ List.mem_cons_self) rfl, ?_⟩
  rw [eC, e19, strB_size, hl60]
  refine ⟨_, w22, min_run _ _ _ _ _ _, ?_⟩
  have s2 := slice_mid (P := Tryz.prog) (t := 9) (k := .i64) (k' := .i64) (s := strB (b.take 60)) (lo := 19) (hi := if ((60 : Nat) : Int) < 19 + (nC : Int) then ((60 : Nat) : Int) else 19 + (nC : Int)) (w := w22) (by kernel_rfl) (by omega) (by split <;> omega) (by rw [strB_size, hl60]; split <;> omega)
  rw [strB_extract] at s2
  have e2 : (((b.take 60).drop (19 : Int).toNat).take ((if ((60 : Nat) : Int) < 19 + (nC : Int) then ((60 : Nat) : Int) else 19 + (nC : Int)).toNat - (19 : Int).toNat)) = ((b.take 60).drop 19).take nC := by
    rw [show (19 : Int).toNat = 19 from rfl]
    split
    · exact (List.take_of_length_le (l := (b.take 60).drop 19) (by omega)).trans (List.take_of_length_le (l := (b.take 60).drop 19) (by omega)).symm
    · rw [show (19 + (nC : Int)).toNat - 19 = nC by omega]
  rw [e2] at s2
  refine ⟨_, w22, s2, ?_⟩
  generalize ((b.take 60).drop 19).take nC = pb at hdec hpbl
  obtain ⟨kz, cz, w25, hr25, h25⟩ := bytes_t h22 (strB pb)
  rw [strB_size] at hr25 h25
  refine ⟨_, _, _, w25, hr25, ?_⟩
  refine ⟨fun vs w' => ∃ (i : Nat) (g : Option Nat) (cap : Nat), vs = [.int .i64 (i : Int)] ∧ i ≤ pb.length ∧ T F w0 w' (rowP 71 3 g i cap (rpL ((pb.take i).map partOf)) :: rowZ 5 kz pb.length (bvals pb) :: blk k9 (rcC nA (nB : Int) (ptr g) i cap) 95 :: rowP 57 1 (some b35) [8, 2, 1, 4].length [8, 2, 1, 4].length (u64s [nA, nB, nC, nD]) :: rowP 3 1 (some k34) 4 4 (ints [8, 2, 1, 4]) :: blk k2 zR 95 :: Γ), fun vs _ => match vs with | [.int _ i] => (pb.length - i).toNat | _ => 0, ⟨0, none, 0, rfl, by omega, T.nilRow h25 _ _⟩, ?_⟩
  rintro vs w26 ⟨i, g, cap, rfl, hi, h26⟩
  refine ⟨_, rfl, dec_t fun hlt => ?_, dec_f fun hge => ?_⟩
  · have hlt : i < pb.length := by omega
    have hnext : rpL ((pb.take i).map partOf) ++ (rpC (partOf pb[i])).toList = rpL ((pb.take (i + 1)).map partOf) := by
      rw [rpL_snoc, List.take_add_one, List.getElem?_eq_getElem hlt, List.map_append]; rfl
    have hcell : (bvals pb)[i]? = some (.int .u8 ((pb[i]).toNat : Int)) := by rw [bvals_get, List.getElem?_eq_getElem hlt]; rfl
    generalize pb[i] = x at hnext hcell
    refine ⟨⟨kz, 0, none⟩, rfl, by omega, by omega, (x.toNat : Int), by rw [Int.toNat_natCast]; exact rowZ_mem_cell h26 (List.mem_cons_of_mem _ List.mem_cons_self) hcell, ?_⟩
    refine ⟨_, _, _, h26.ld (b := k9) (c := rcC nA (nB : Int) (ptr g) i cap) (i := 2) (List.mem_cons_of_mem _ (List.mem_cons_of_mem _ List.mem_cons_self)) rfl, ?_⟩
    rw [(part_cells x).1, (part_cells x).2]
    refine pushN_t (P := Tryz.prog) (t := 43) (i := Tryz.t71) (z := .agg #[.int .i64 0, .int .i64 0, .string (ByteArray.mk #[])]) (c := rpC (partOf x)) (size := 3) (by kernel_rfl) (by kernel_rfl) (by kernel_rfl) (by kernel_rfl) (by kernel_rfl) (by kernel_rfl) h26 .head rfl (fun u hu => ?_) (by omega) fun g' cap' w28 h28 => ?_
    · have hu : u ∈ [Value.int .i64 (partOf x).col, .int .i64 (partOf x).off, .string (strB (partOf x).data)] := hu
      simp only [List.mem_cons, List.not_mem_nil, or_false] at hu
      rcases hu with rfl | rfl | rfl <;> rfl
    · rw [hnext] at h28
      refine St.t (c := rcC nA (nB : Int) (ptr g) i cap) (c' := rcC nA (nB : Int) (ptr g') (i + 1) cap') h28 (.tail (.tail .head)) (show 2 < 3 by decide) rfl rfl fun w29 h29 => ⟨⟨i + 1, g', cap', ?_, by omega, h29⟩, ?_⟩
      · rw [wrap64 _ (by omega) (by omega)]; rfl
      · show ((pb.length : Int) - IntKind.i64.wrap ((i : Int) + 1)).toNat < ((pb.length : Int) - (i : Int)).toNat
        rw [wrap64 _ (by omega) (by omega)]; omega
  · have hie : i = (pb.map partOf).length := by rw [List.length_map]; omega
    subst hie
    rw [List.take_of_length_le (by rw [List.length_map]; omega)] at h26
    have hps : (pb.map partOf).length ≤ 41 := by rw [List.length_map]; exact hpbl
    generalize pb.map partOf = ps at h26 hdec hps
    have rd : ∀ {w' : World} {Δ : List A}, T F w0 w' Δ → blk k9 (rcC nA (nB : Int) (ptr g) ps.length cap) 95 ∈ Δ → w'.cell? ⟨k9, 0, none⟩ = some (.int .u64 (nA : Int)) ∧ w'.cell? ⟨k9, 1, none⟩ = some (.int .i64 (nB : Int)) ∧ w'.cell? ⟨k9, 2, none⟩ = some (.slice (ptr g) ps.length cap) := fun h hm => ⟨h.ld (c := rcC nA (nB : Int) (ptr g) ps.length cap) hm rfl, h.ld (c := rcC nA (nB : Int) (ptr g) ps.length cap) (i := 1) hm rfl, h.ld (c := rcC nA (nB : Int) (ptr g) ps.length cap) (i := 2) hm rfl⟩
    have m3 : ∀ {a1 a2 a3 : A} {L : List A}, a3 ∈ a1 :: a2 :: a3 :: L := fun {a1 a2 a3 L} => List.mem_cons_of_mem _ (List.mem_cons_of_mem _ List.mem_cons_self)
    refine Join.intro fun J hJ => ?_
    refine ⟨⟨b35, 0, none⟩, rfl, by omega, by decide, (nD : Int), by rw [addr_add]; exact cellU 3 nD h26 (List.mem_cons_of_mem _ m3) rfl, ?_⟩
    have eD : IntKind.u32.wrap (nD : Int) = ((BitVec.ofNat 32 nD).toNat : Int) := by
      rw [BitVec.toNat_ofNat]; simp [IntKind.wrap, IntKind.bits, IntKind.signed]
    rw [eD]
    have hno : ∀ w', T F w0 w' (rowP 71 3 g ps.length cap (rpL ps) :: rowZ 5 kz pb.length (bvals pb) :: blk k9 (rcC nA (nB : Int) (ptr g) ps.length cap) 95 :: rowP 57 1 (some b35) [8, 2, 1, 4].length [8, 2, 1, 4].length (u64s [nA, nB, nC, nD]) :: rowP 3 1 (some k34) 4 4 (ints [8, 2, 1, 4]) :: blk k2 zR 95 :: Γ) → ¬ (PlacedR (nB : Int) ps ∧ headR nA (nB : Int) ps (BitVec.ofNat 32 nD) = b) → J [] w' := fun w' h' hn => hJ [] w' ⟨rfl, bad w' [_, _, _, _, _] 1 h' (by rw [hdec]; exact if_neg hn)⟩
    refine ⟨_, _, _, _, _, rd h26 m3, ?_⟩
    refine (placed_spec (seq := nA) (row := (nB : Int)) (c := cap) (T.parts h26 List.mem_cons_self).1 (by omega)).mono fun e w34 ⟨he34, hx34⟩ => ⟨_, he34, fun hp => ?_, fun hp => hno w34 (h26.quiet hx34) fun hq => of_decide_eq_false hp hq.1⟩
    have hP := of_decide_eq_true hp
    have h34 := h26.quiet hx34
    refine ⟨_, _, _, _, _, rd h34 m3, ?_⟩
    refine (head_spec (seq := nA) (row := (nB : Int)) (c := cap) (sum := BitVec.ofNat 32 nD) bA hP (T.parts h34 List.mem_cons_self).1).mono fun e w35 ⟨he35, hx35⟩ => ⟨_, he35, fun hq => ?_, fun hq => ?_⟩
    · rw [strB_toList, strB_toList] at hq
      have hq : headR nA (nB : Int) ps (BitVec.ofNat 32 nD) = b := by simpa using hq
      rw [if_pos ⟨hP, hq⟩] at hdec
      have h35 := h34.quiet hx35
      refine ⟨_, _, _, _, _, rd h35 m3, ?_⟩
      refine St.t (c := zR) (c' := #[.int .u64 (nA : Int), .int .i64 0, .slice none 0 0]) h35 (.tail (.tail (.tail (.tail (.tail .head))))) (show 0 < 3 by decide) rfl rfl fun w36 h36 => St.t (c' := #[.int .u64 (nA : Int), .int .i64 (nB : Int), .slice none 0 0]) h36 (.tail (.tail (.tail (.tail (.tail .head))))) (show 1 < 3 by decide) rfl rfl fun w37 h37 => St.t (c' := rcC nA (nB : Int) (ptr g) ps.length cap) h37 (.tail (.tail (.tail (.tail (.tail .head))))) (show 2 < 3 by decide) rfl rfl fun w38 h38 => ?_
      have h38' := T.dropAt (T.dropAt (T.dropAt (T.dropAt h38 (.tail .head)) (.tail .head)) (.tail .head)) (.tail .head)
      refine ⟨_, _, _, _, _, ⟨h38'.ld (c := rcC nA (nB : Int) (ptr g) ps.length cap) (List.mem_cons_of_mem _ List.mem_cons_self) rfl, h38'.ld (c := rcC nA (nB : Int) (ptr g) ps.length cap) (i := 1) (List.mem_cons_of_mem _ List.mem_cons_self) rfl, h38'.ld (c := rcC nA (nB : Int) (ptr g) ps.length cap) (i := 2) (List.mem_cons_of_mem _ List.mem_cons_self) rfl⟩, g, cap, ?_, ?_⟩
      · rw [hdec]; rfl
      · rw [hdec]; exact T.dropAt h38' (.tail .head)
    · rw [strB_toList, strB_toList] at hq
      exact hno w35 (h34.quiet hx35) fun hh => by rw [hh.2] at hq; simp at hq
end Go.Proofs.YtbecjmfcppginaaGreat
end
section
/-! record: Decode. -/
namespace Go.Proofs.YtbecjmfcppginaaGreat
open Go.Sh Go.RowKit
set_option linter.unusedVariables false
set_option linter.unusedSimpArgs false
set_option maxRecDepth 20000
set_option maxHeartbeats 1000000
theorem rpL_set (s : List UInt8) : ∀ (l : List RP) (j : Nat), (rpL l).set (j * 3 + 2) (.string (strB s)) = rpL (l.modify j fun x => { x with data := s })
  | [], j => by simp [rpL]
  | x :: l, 0 => by simp [rpL, rpC]
  | x :: l, j + 1 => by
    have e : rpL (x :: l) = .int .i64 x.col :: .int .i64 x.off :: .string (strB x.data) :: rpL l := rfl
    rw [e, show (j + 1) * 3 + 2 = (j * 3 + 2) + 1 + 1 + 1 by omega, List.set_cons_succ, List.set_cons_succ, List.set_cons_succ, rpL_set s l j, List.modify_succ_cons]; rfl
def fillN (l : List RP) (L : List (List UInt8)) (i : Nat) : List RP := l.mapIdx fun j x => if j < i then { x with data := L.getD j [] } else x
def withD (l : List RP) (L : List (List UInt8)) : List RP := fillN l L l.length
theorem fillN_len (l : List RP) (L : List (List UInt8)) (i : Nat) : (fillN l L i).length = l.length := List.length_mapIdx
theorem withD_len (l : List RP) (L : List (List UInt8)) : (withD l L).length = l.length := fillN_len ..
theorem fillN_zero (l : List RP) (L : List (List UInt8)) : fillN l L 0 = l := by
  apply List.ext_getElem?; intro j
  rw [fillN, List.getElem?_mapIdx]
  cases l[j]? <;> simp
theorem fillN_next (l : List RP) (L : List (List UInt8)) (i : Nat) : (fillN l L i).modify i (fun x => { x with data := L.getD i [] }) = fillN l L (i + 1) := by
  apply List.ext_getElem?; intro j
  rw [List.getElem?_modify, fillN, fillN, List.getElem?_mapIdx, List.getElem?_mapIdx]
  cases l[j]? with
  | none => simp
  | some x =>
    simp only [Option.map_some]
    by_cases h : i = j
    · subst h; simp
    · by_cases h2 : j < i
      · simp only [Option.map_eq_map, Option.map_some, if_neg h, if_pos h2, if_pos (show j < i + 1 by omega)]
      · simp only [Option.map_eq_map, Option.map_some, if_neg h, if_neg h2, if_neg (show ¬ j < i + 1 by omega)]
theorem withD_datas {l : List RP} {L : List (List UInt8)} (h : L.length = l.length) : datas (withD l L) = L := by
  apply List.ext_getElem?; intro j
  rw [datas, withD, fillN, List.getElem?_map, List.getElem?_mapIdx]
  by_cases hj : j < l.length
  · rw [List.getElem?_eq_getElem hj]
    simp only [Option.map_some, if_pos hj]
    rw [List.getElem?_eq_getElem (by omega), List.getD_eq_getElem?_getD, List.getElem?_eq_getElem (by omega)]; rfl
  · rw [List.getElem?_eq_none (by omega), List.getElem?_eq_none (by omega)]; rfl
theorem loaded_datas (l : List RP) : LoadedR l ↔ ∀ s ∈ datas l, s.length = 64 := by
  unfold LoadedR datas
  simp
theorem decH_len (b : List UInt8) : (decH b).1.2.2.1.length ≤ 41 := by
  have h : (headOf b).2.2.1.length ≤ 41 := by
    show ((((b.take 60).drop 19).take _).map partOf).length ≤ 41
    rw [List.length_map, List.length_take, List.length_drop, List.length_take]; omega
  unfold decH
  split
  · exact Nat.zero_le _
  · split
    · exact Nat.zero_le _
    · split
      · exact Nat.zero_le _
      · split
        · exact h
        · exact Nat.zero_le _
abbrev RcV : Type := Nat × Int × List RP
def zRc : RcV := (0, 0, [])
/-- a record out of its head and its load -/
def decR (b : List UInt8) (L : List (List UInt8)) : RcV × Int :=
  if (decH b).2 ≠ 0 then (zRc, (decH b).2) else if L.length ≠ (decH b).1.2.2.1.length then (zRc, 31) else if ¬ LoadedR (withD (decH b).1.2.2.1 L) then (zRc, 31) else if crcSum L.flatten ≠ (decH b).1.2.2.2 then (zRc, 80) else (((decH b).1.1, (decH b).1.2.1, withD (decH b).1.2.2.1 L), 0)
def rcV (d : RcV × Int) (g : Option Nat) (cap : Nat) : Value := .tuple #[.agg (rcC d.1.1 d.1.2.1 (ptr g) d.1.2.2.length cap), .int .i64 d.2]
variable {F : List Nat} {w0 w : World} {Γ : List A}
theorem rdec_spec (hT : T F w0 w Γ) (b : List UInt8) (hb : b.length ≤ 1000000) {L : List (List UInt8)} {gl : Option Nat} {cl : Nat} (hm : rowP 9 1 gl L.length cl (strV L) ∈ Γ) :
    Calls Tryz.prog 82 #[.string (strB b), .slice (ptr gl) L.length cl] w fun e w' => ∃ g cap, e = .returned (rcV (decR b L) g cap) ∧ T F w0 w' (rowP 71 3 g (decR b L).1.2.2.length cap (rpL (decR b L).1.2.2) :: Γ) := by
  refine (record_Decode_calls (R := fun v w' => ∃ g cap, v = rcV (decR b L) g cap ∧ T F w0 w' (rowP 71 3 g (decR b L).1.2.2.length cap (rpL (decR b L).1.2.2) :: Γ)) ?_).mono fun e w' ⟨v, he, g, cap, hv, h⟩ => ⟨g, cap, by rw [he, hv], h⟩
  unfold record_Decode
  refine Alloc.t hT fun k4 w1 h1 => ?_
  have h1 : T F w0 w1 (blk k4 zR 95 :: Γ) := h1
  have bad : ∀ (w' : World) (Δ : List A) (x : Int), T F w0 w' (Δ ++ blk k4 zR 95 :: Γ) → decR b L = (zRc, x) →
      St ⟨k4, 0, none⟩ (.int .u64 0) w' fun w2 => St ⟨k4, 1, none⟩ (.int .i64 0) w2 fun w3 => St ⟨k4, 2, none⟩ (.slice none 0 0) w3 fun w4 => ∃ nr2_0 : Int, ∃ nr2_1 : Int, ∃ (pr2_2 : Option Addr) (lr2_2 cr2_2 : Nat), (w4.cell? ⟨k4, 0, none⟩ = some (.int .u64 nr2_0) ∧ w4.cell? ⟨k4, 1, none⟩ = some (.int .i64 nr2_1) ∧ w4.cell? ⟨k4, 2, none⟩ = some (.slice pr2_2 lr2_2 cr2_2)) ∧
        ∃ g cap, (Value.tuple #[.agg #[.int .u64 nr2_0, .int .i64 nr2_1, .slice pr2_2 lr2_2 cr2_2], .int .i64 x]) = rcV (decR b L) g cap ∧ T F w0 w4 (rowP 71 3 g (decR b L).1.2.2.length cap (rpL (decR b L).1.2.2) :: Γ) := by
    intro w' Δ x hT' hd
    have hT' := T.back hT'
    refine St.t (c := zR) (c' := zR) hT' .head (show 0 < 3 by decide) rfl rfl fun w2 h2 => St.t (c := zR) (c' := zR) h2 .head (show 1 < 3 by decide) rfl rfl fun w3 h3 => St.t (c := zR) (c' := zR) h3 .head (show 2 < 3 by decide) rfl rfl fun w4 h4 => ?_
    refine ⟨_, _, _, _, _, ⟨h4.ld (c := zR) List.mem_cons_self rfl, h4.ld (c := zR) (i := 1) List.mem_cons_self rfl, h4.ld (c := zR) (i := 2) List.mem_cons_self rfl⟩, none, 0, ?_, ?_⟩
    · rw [hd]; rfl
    · rw [hd]; exact T.nilRow h4.drop _ _
  have h41 := decH_len b
  have hdec : decR b L = if (decH b).2 ≠ 0 then (zRc, (decH b).2) else if L.length ≠ (decH b).1.2.2.1.length then (zRc, 31) else if ¬ LoadedR (withD (decH b).1.2.2.1 L) then (zRc, 31) else if crcSum L.flatten ≠ (decH b).1.2.2.2 then (zRc, 80) else (((decH b).1.1, (decH b).1.2.1, withD (decH b).1.2.2.1 L), 0) := rfl
  have hhd := rhead_spec h1 b hb
  generalize decH b = d at hhd hdec h41
  obtain ⟨⟨seq, row, ps, sum⟩, er⟩ := d
  have h41 : ps.length ≤ 41 := h41
  refine hhd.mono fun e w2 ⟨g, cap, he2, h2⟩ => ⟨_, _, _, _, _, _, _, he2, ?_⟩
  have h2 : T F w0 w2 (rowP 71 3 g ps.length cap (rpL ps) :: blk k4 zR 95 :: Γ) := h2
  refine Alloc.t h2 fun k6 w3 h3 => St.t (c := zR) (c' := #[.int .u64 (seq : Int), .int .i64 0, .slice none 0 0]) h3 .head (show 0 < 3 by decide) rfl rfl fun w4 h4 => St.t (c' := #[.int .u64 (seq : Int), .int .i64 row, .slice none 0 0]) h4 .head (show 1 < 3 by decide) rfl rfl fun w5 h5 => St.t (c' := rcC seq row (ptr g) ps.length cap) h5 .head (show 2 < 3 by decide) rfl rfl fun w6 h6 => ?_
  refine ⟨bne_t fun hne => bad w6 [_, _] er h6 (by rw [hdec]; exact if_pos hne), bne_f fun heq => ?_⟩
  have heq : er = 0 := heq
  rw [if_neg (by show ¬ (er ≠ 0); omega)] at hdec
  have rd : ∀ {w' : World} {Δ : List A}, T F w0 w' Δ → blk k6 (rcC seq row (ptr g) ps.length cap) 95 ∈ Δ → w'.cell? ⟨k6, 0, none⟩ = some (.int .u64 (seq : Int)) ∧ w'.cell? ⟨k6, 1, none⟩ = some (.int .i64 row) ∧ w'.cell? ⟨k6, 2, none⟩ = some (.slice (ptr g) ps.length cap) := fun h hm => ⟨h.ld (c := rcC seq row (ptr g) ps.length cap) hm rfl, h.ld (c := rcC seq row (ptr g) ps.length cap) (i := 1) hm rfl, h.ld (c := rcC seq row (ptr g) ps.length cap) (i := 2) hm rfl⟩
  refine ⟨_, _, _, (rd h6 List.mem_cons_self).2.2, ?_⟩
  refine ⟨bne_t fun hne => bad w6 [_, _] 31 h6 (by rw [hdec]; exact if_pos (show L.length ≠ ps.length by omega)), bne_f fun heql => ?_⟩
  have hll : L.length = ps.length := by omega
  rw [if_neg (by show ¬ (L.length ≠ ps.length); omega)] at hdec
  have m2 : ∀ {a1 a2 : A} {Δ : List A}, a2 ∈ a1 :: a2 :: Δ := fun {a1 a2 Δ} => List.mem_cons_of_mem _ List.mem_cons_self
  refine ⟨fun vs w' => ∃ i : Nat, vs = [.int .i64 (i : Int)] ∧ i ≤ L.length ∧ T F w0 w' (rowP 71 3 g ps.length cap (rpL (fillN ps L i)) :: blk k6 (rcC seq row (ptr g) ps.length cap) 95 :: blk k4 zR 95 :: Γ), fun vs _ => match vs with | [.int _ i] => (L.length - i).toNat | _ => 0, ⟨0, rfl, by omega, by rw [fillN_zero]; exact h6.swap (.swap _ _ _)⟩, ?_⟩
  rintro vs w13 ⟨i, rfl, hi, h13⟩
  refine ⟨_, rfl, dec_t fun hlt => ?_, dec_f fun hge => ?_⟩
  · have hlt : i < L.length := by omega
    obtain ⟨bl, rfl, hcl⟩ := T.row1 (i := i) (v := .string (strB (L.getD i []))) h13 (List.mem_cons_of_mem _ (List.mem_cons_of_mem _ (List.mem_cons_of_mem _ hm))) (by
      unfold strV; rw [List.getElem?_map, List.getD_eq_getElem?_getD, List.getElem?_eq_getElem hlt]; rfl)
    refine ⟨_, rfl, by omega, by omega, _, by rw [Int.toNat_natCast]; exact hcl, ?_⟩
    refine ⟨_, _, _, (rd h13 m2).2.2, ?_⟩
    obtain ⟨bp, rfl⟩ := rowP.pos (h13.says List.mem_cons_self) (by omega)
    refine ⟨_, rfl, by omega, by omega, ?_⟩
    rw [Int.toNat_natCast, addr_add, addr_add, Nat.zero_add]
    refine StRow.t h13 .head (by rw [rpL_len, fillN_len]; omega) rfl fun w14 h14 => ⟨⟨i + 1, ?_, by omega, ?_⟩, ?_⟩
    · rw [wrap64 _ (by omega) (by omega)]; rfl
    · rw [rpL_set, fillN_next] at h14; exact h14
    · show ((L.length : Int) - IntKind.i64.wrap ((i : Int) + 1)).toNat < ((L.length : Int) - (i : Int)).toNat
      rw [wrap64 _ (by omega) (by omega)]; omega
  · have hie : i = ps.length := by omega
    subst hie
    have h13 : T F w0 w13 (rowP 71 3 g ps.length cap (rpL (withD ps L)) :: blk k6 (rcC seq row (ptr g) ps.length cap) 95 :: blk k4 zR 95 :: Γ) := h13
    have hwl := withD_len ps L
    have hwd := withD_datas hll
    refine ⟨_, _, _, _, _, rd h13 m2, ?_⟩
    rw [← hwl] at h13 rd
    rw [← hwl]
    refine (loaded_spec (seq := seq) (row := row) (c := cap) (T.parts h13 List.mem_cons_self).1 (by omega)).mono fun e w15 ⟨he15, hx15⟩ => ⟨_, he15, ?_⟩
    have h15 := h13.quiet hx15
    refine ⟨not_t fun ho => bad w15 [_, _] 31 h15 (by rw [hdec]; exact if_pos (of_decide_eq_false ho)), not_f fun ho => ?_⟩
    have hLo : LoadedR (withD ps L) := of_decide_eq_true ho
    rw [if_neg (fun hn => hn hLo)] at hdec
    have hfl : L.flatten.length = 64 * ps.length := by have := datas_flat hLo; rw [hwd, hwl] at this; exact this
    refine (join_spec (L := L) h15 (List.mem_cons_of_mem _ (List.mem_cons_of_mem _ (List.mem_cons_of_mem _ hm))) (by omega) (by omega)).mono fun e w19 ⟨he19, hx19⟩ => ⟨_, he19, ?_⟩
    have h19 := h15.quiet hx19
    refine (sum_spec (strB L.flatten) (by rw [strB_size]; omega) w19).mono fun e w20 ⟨he20, hx20⟩ => ⟨_, he20, ?_⟩
    have h20 := h19.quiet hx20
    have eL : (strB L.flatten).data.toList = L.flatten := rfl
    rw [eL]
    refine ⟨bne_t fun hne => bad w20 [_, _] 80 h20 (by rw [hdec]; exact if_pos fun hq => hne (by rw [hq])), bne_f fun hsm => ?_⟩
    have hsm : ((crcSum L.flatten).toNat : Int) = (sum.toNat : Int) := hsm
    have hsm : crcSum L.flatten = sum := BitVec.eq_of_toNat_eq (by omega)
    rw [if_neg (fun hn => hn hsm)] at hdec
    refine ⟨_, _, _, _, _, rd h20 m2, ?_⟩
    refine St.t (c := zR) (c' := #[.int .u64 (seq : Int), .int .i64 0, .slice none 0 0]) h20 (.tail (.tail .head)) (show 0 < 3 by decide) rfl rfl fun w24 h24 => St.t (c' := #[.int .u64 (seq : Int), .int .i64 row, .slice none 0 0]) h24 (.tail (.tail .head)) (show 1 < 3 by decide) rfl rfl fun w25 h25 => St.t (c' := rcC seq row (ptr g) (withD ps L).length cap) h25 (.tail (.tail .head)) (show 2 < 3 by decide) rfl rfl fun w26 h26 => ?_
    have h26' := T.dropAt h26 (.tail .head)
    refine ⟨_, _, _, _, _, ⟨h26'.ld (c := rcC seq row (ptr g) (withD ps L).length cap) m2 rfl, h26'.ld (c := rcC seq row (ptr g) (withD ps L).length cap) (i := 1) m2 rfl, h26'.ld (c := rcC seq row (ptr g) (withD ps L).length cap) (i := 2) m2 rfl⟩, g, cap, ?_, ?_⟩
    · rw [hdec]; rfl
    · rw [hdec]; exact T.dropAt h26' (.tail .head)
end Go.Proofs.YtbecjmfcppginaaGreat
end
