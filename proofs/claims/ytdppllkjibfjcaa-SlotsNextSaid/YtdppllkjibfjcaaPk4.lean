import Derived.Test.YtdppllkjibfjcaaPk3
/-! pack: Decode. -/
namespace Go.Proofs.Ytdppllkjibfjcaa
open Go.Sh Go.RowKit
set_option linter.unusedVariables false
set_option maxRecDepth 20000
set_option maxHeartbeats 1000000
def curL (s : List UInt8) (ws : List Nat) (m : Nat) : List Nat := (List.range ws.length).map (curP s ws m)
theorem curL_len (s : List UInt8) (ws : List Nat) (m : Nat) : (curL s ws m).length = ws.length := by simp [curL]
theorem curL_get (s : List UInt8) (ws : List Nat) (m : Nat) {i : Nat} (hi : i < ws.length) : (curL s ws m)[i]? = some (curP s ws m i) := by simp [curL, hi]
theorem curL_zero (s : List UInt8) (ws : List Nat) : u64s (curL s ws 0) = List.replicate ws.length (Value.int .u64 0) := by
  unfold u64s curL
  rw [List.map_map]
  apply List.ext_getElem?
  intro j
  rw [List.getElem?_replicate]
  by_cases hj : j < ws.length
  · simp [hj, curP_zero]
  · simp [hj]
theorem curL_all (s : List UInt8) (ws : List Nat) : curL s ws ws.sum = decP s ws := by
  apply List.ext_getElem?
  intro j
  by_cases hj : j < ws.length
  · have h : ws[j]? = some ws[j] := by simp [hj]
    rw [curL_get s ws _ hj, decP_get ws s j _ h, curP_all s h]
  · rw [List.getElem?_eq_none (by rw [curL_len]; omega), List.getElem?_eq_none (by rw [decP_len]; omega)]
theorem curL_step (s : List UInt8) {ws : List Nat} {i k x : Nat} (h : ws[i]? = some x) (hk : k < x) : (u64s (curL s ws (wsum ws i + k))).set i (.int .u64 (curP s ws (wsum ws i + k + 1) i : Int)) = u64s (curL s ws (wsum ws i + k + 1)) := by
  have hi := (List.getElem?_eq_some_iff.1 h).1
  apply List.ext_getElem?
  intro j
  rw [List.getElem?_set]
  by_cases hj : j < ws.length
  · rw [u64s_get (curL_get s ws (wsum ws i + k + 1) hj)]
    split
    · rename_i e; subst e
      rw [if_pos (by rw [u64s_len, curL_len]; exact hi)]
    · rename_i e
      rw [u64s_get (curL_get s ws (wsum ws i + k) hj), curP_other s h hk (fun e' => e e'.symm)]
  · rw [if_neg (by omega), List.getElem?_eq_none (by rw [u64s_len, curL_len]; omega), List.getElem?_eq_none (by rw [u64s_len, curL_len]; omega)]
theorem decode_spec {ws : List Nat} (hv : Wid ws) {s : ByteArray} (hsz : s.size = ws.sum) {F : List Nat} {w0 w : World} {Γ : List A} (hT : T F w0 w Γ) {g2 : Option Nat} {n2 c2 : Nat} (hn2 : n2 = ws.length)
    (hm2 : rowP 3 1 g2 n2 c2 (ints ws) ∈ Γ) :
    Calls Try.prog 80 #[.string s, .slice (ptr g2) n2 c2] w fun e w' => ∃ b, e = .returned (.tuple #[.slice (ptr (some b)) ws.length ws.length, .int .i64 0]) ∧ T F w0 w' (rowP 53 1 (some b) ws.length ws.length (u64s (decP s.data.toList ws)) :: Γ) := by
  subst hn2
  refine (pack_Decode_calls (R := fun v w' => ∃ b, v = .tuple #[.slice (ptr (some b)) ws.length ws.length, .int .i64 0] ∧ T F w0 w' (rowP 53 1 (some b) ws.length ws.length (u64s (decP s.data.toList ws)) :: Γ)) ?_).mono fun e w' ⟨v, he, b, hv, h⟩ => ⟨b, by rw [he, hv], h⟩
  unfold pack_Decode
  have hs := hv.sum
  have hw64 := hv.1
  have hlen : s.data.toList.length = ws.sum := by rw [Array.length_toList]; exact hsz
  refine Alloc.t hT fun k2 w1 h1 => ?_
  refine (size_spec hv (T.readsW h1 (List.mem_cons_of_mem _ hm2))).mono fun e w2 ⟨he, hx⟩ => ⟨_, _, he, no rfl ?_⟩
  have h2 := h1.quiet hx
  refine ⟨_, h2.ld List.mem_cons_self rfl, no (by rw [hsz]; simp) ?_⟩
  obtain ⟨k5, w3, hmk, h3⟩ := make_t (P := Try.prog) (t := 94) (e := 53) (i := Try.t53) (z := .int .u64 0) (kl := .i64) (kc := .i64) (n := (ws.length : Int)) (c := (ws.length : Int)) (by kernel_rfl) (by kernel_rfl) (by kernel_rfl) (by kernel_rfl) (by rfl) (by kernel_rfl) (by omega) (by omega) (by omega) h2
  simp only [Int.toNat_natCast] at hmk h3
  have h3 : T F w0 w3 (rowP 53 1 (some k5) ws.length ws.length (u64s (curL s.data.toList ws 0)) :: blk k2 #[.string (strB (s.data.toList.drop 0))] 9 :: Γ) := by
    rw [curL_zero, List.drop_zero, strB_list]; exact h3
  refine ⟨_, _, _, w3, hmk, ?_⟩
  refine Alloc.t h3 fun k8 w4 h4 => St.t h4 .head (by simp) (by rfl) rfl fun w5 h5 => ?_
  refine (pack_places_calls (R := fun v w' => ∃ k1, v = .func (.func 89) #[] #[.pointer (some ⟨k1, 0, none⟩)] ∧ T F w0 w' (blk k1 #[.slice (ptr g2) ws.length c2] 101 :: blk k8 #[.slice (ptr (some k5)) ws.length ws.length] 94 :: rowP 53 1 (some k5) ws.length ws.length (u64s (curL s.data.toList ws 0)) :: blk k2 #[.string (strB (s.data.toList.drop 0))] 9 :: Γ)) ?_).mono ?_
  · unfold pack_places
    exact Alloc.t h5 fun k1 w8 h8 => ⟨k1, rfl, h8⟩
  · rintro e w8 ⟨v, he, k1, rfl, h8⟩
    refine ⟨_, he, ?_⟩
    refine RangeP.t (by kernel_rfl) h8 (N := ws.sum) (arg := placeA ws)
      (Inv := fun m Γm => Γm = blk k1 #[.slice (ptr g2) ws.length c2] 101 :: blk k8 #[.slice (ptr (some k5)) ws.length ws.length] 94 :: rowP 53 1 (some k5) ws.length ws.length (u64s (curL s.data.toList ws m)) :: blk k2 #[.string (strB (s.data.toList.drop m))] 9 :: Γ)
      rfl ?_ ?_ ?_
    · intro yv J hJ hc W hW
      refine places_spec hv (J := J) (g := g2) (cap := c2) (fun m W hm => ?_) hc W hW
      obtain ⟨Γk, x, y, rfl, h⟩ := hJ m W hm
      exact ⟨h.ld (by first | exact List.Mem.head _ | exact List.Mem.tail _ (List.Mem.head _) | exact List.Mem.tail _ (List.Mem.tail _ (List.Mem.head _)) | exact List.Mem.tail _ (List.Mem.tail _ (List.Mem.tail _ (List.Mem.head _))) | exact List.Mem.tail _ (List.Mem.tail _ (List.Mem.tail _ (List.Mem.tail _ (List.Mem.head _)))) | exact List.Mem.tail _ (List.Mem.tail _ (List.Mem.tail _ (List.Mem.tail _ (List.Mem.tail _ (List.Mem.head _))))) | exact List.Mem.tail _ (List.Mem.tail _ (List.Mem.tail _ (List.Mem.tail _ (List.Mem.tail _ (List.Mem.tail _ (List.Mem.head _)))))) | exact List.Mem.tail _ (List.Mem.tail _ (List.Mem.tail _ (List.Mem.tail _ (List.Mem.tail _ (List.Mem.tail _ (List.Mem.tail _ (List.Mem.head _))))))) | exact List.Mem.tail _ (List.Mem.tail _ (List.Mem.tail _ (List.Mem.tail _ (List.Mem.tail _ (List.Mem.tail _ (List.Mem.tail _ (List.Mem.tail _ (List.Mem.head _)))))))) | exact List.Mem.tail _ (List.Mem.tail _ (List.Mem.tail _ (List.Mem.tail _ (List.Mem.tail _ (List.Mem.tail _ (List.Mem.tail _ (List.Mem.tail _ (List.Mem.tail _ (List.Mem.head _))))))))) | exact List.Mem.tail _ (List.Mem.tail _ (List.Mem.tail _ (List.Mem.tail _ (List.Mem.tail _ (List.Mem.tail _ (List.Mem.tail _ (List.Mem.tail _ (List.Mem.tail _ (List.Mem.tail _ (List.Mem.head _)))))))))) | exact List.Mem.tail _ (List.Mem.tail _ (List.Mem.tail _ (List.Mem.tail _ (List.Mem.tail _ (List.Mem.tail _ (List.Mem.tail _ (List.Mem.tail _ (List.Mem.tail _ (List.Mem.tail _ (List.Mem.tail _ (List.Mem.head _)))))))))))) rfl, T.readsW h (by repeat (first | exact hm2 | refine List.mem_cons_of_mem _ ?_))⟩
    · rintro obf l d m Γk W Φ hm rfl hW hΦ
      obtain ⟨i, k, x, hx, hk, rfl⟩ := placeL_inv ws 0 m hm
      have hx8 := hv.at hx
      have hil : i < ws.length := (List.getElem?_eq_some_iff.1 hx).1
      rw [placeA_get hx hk]
      refine ⟨_, _, rfl, ?_⟩
      refine RoundP.t hW (G := fun Γ' => Γ' = ob d (.deferred (some [])) :: blk k1 #[.slice (ptr g2) ws.length c2] 101 :: blk k8 #[.slice (ptr (some k5)) ws.length ws.length] 94 :: rowP 53 1 (some k5) ws.length ws.length (u64s (curL s.data.toList ws (wsum ws i + k + 1))) :: blk k2 #[.string (strB (s.data.toList.drop (wsum ws i + k + 1)))] 9 :: Γ) ?_ ?_
      · rintro Γ' w' rfl h'
        exact hΦ _ w' rfl h'
      · intro K X R w9 h9 hK
        have hb : s.data.toList[wsum ws i + k]? = some (s.data.toList[wsum ws i + k]'(by omega)) := by simp [hlen, hm]
        generalize s.data.toList[wsum ws i + k]'(by omega) = b at hb
        have hd0 : (s.data.toList.drop (wsum ws i + k)).getD 0 0 = b := by simp [List.getD, hb]
        have hdl : (strB (s.data.toList.drop (wsum ws i + k))).size = ws.sum - (wsum ws i + k) := by rw [strB_size, List.length_drop, hlen]
        obtain ⟨hst, hlt⟩ := curP_step hx hk hb
        have hbb := b.toNat_lt
        have hp : (256 : Nat) ^ k = 2 ^ (8 * k) := by rw [Nat.pow_mul]
        rw [hp] at hst hlt
        have hval : curP s.data.toList ws (wsum ws i + k) i + b.toNat * 2 ^ (8 * k) < 18446744073709551616 := by
          have h1 : b.toNat * 2 ^ (8 * k) ≤ 255 * 2 ^ (8 * k) := Nat.mul_le_mul_right _ (by omega)
          have h2 : (2 : Nat) ^ (8 * k) ≤ 2 ^ 56 := Nat.pow_le_pow_right (by decide) (by omega)
          have h3 : (2 : Nat) ^ 56 = 72057594037927936 := by decide
          omega
        have hwr : IntKind.u64.wrap (IntKind.u64.wrap ((b.toNat : Nat) : Int) * 2 ^ (min ((8 * k : Nat) : Int).toNat 64)) = ((b.toNat * 2 ^ (8 * k) : Nat) : Int) := by
          rw [Int.toNat_natCast, Nat.min_eq_left (by omega)]
          have e1 : IntKind.u64.wrap ((b.toNat : Nat) : Int) = ((b.toNat : Nat) : Int) := by rw [wrapU64]; omega
          have e2 : ((b.toNat : Nat) : Int) * 2 ^ (8 * k) = ((b.toNat * 2 ^ (8 * k) : Nat) : Int) := by push_cast; rfl
          rw [e1, e2, wrapU64]; omega
        have hor := or64 hlt hval
        refine ⟨fun w => T F w0 w _, h9.drew, _, _, _, fun w h => h.ld (by first | exact List.Mem.head _ | exact List.Mem.tail _ (List.Mem.head _) | exact List.Mem.tail _ (List.Mem.tail _ (List.Mem.head _)) | exact List.Mem.tail _ (List.Mem.tail _ (List.Mem.tail _ (List.Mem.head _))) | exact List.Mem.tail _ (List.Mem.tail _ (List.Mem.tail _ (List.Mem.tail _ (List.Mem.head _)))) | exact List.Mem.tail _ (List.Mem.tail _ (List.Mem.tail _ (List.Mem.tail _ (List.Mem.tail _ (List.Mem.head _))))) | exact List.Mem.tail _ (List.Mem.tail _ (List.Mem.tail _ (List.Mem.tail _ (List.Mem.tail _ (List.Mem.tail _ (List.Mem.head _)))))) | exact List.Mem.tail _ (List.Mem.tail _ (List.Mem.tail _ (List.Mem.tail _ (List.Mem.tail _ (List.Mem.tail _ (List.Mem.tail _ (List.Mem.head _))))))) | exact List.Mem.tail _ (List.Mem.tail _ (List.Mem.tail _ (List.Mem.tail _ (List.Mem.tail _ (List.Mem.tail _ (List.Mem.tail _ (List.Mem.tail _ (List.Mem.head _)))))))) | exact List.Mem.tail _ (List.Mem.tail _ (List.Mem.tail _ (List.Mem.tail _ (List.Mem.tail _ (List.Mem.tail _ (List.Mem.tail _ (List.Mem.tail _ (List.Mem.tail _ (List.Mem.head _))))))))) | exact List.Mem.tail _ (List.Mem.tail _ (List.Mem.tail _ (List.Mem.tail _ (List.Mem.tail _ (List.Mem.tail _ (List.Mem.tail _ (List.Mem.tail _ (List.Mem.tail _ (List.Mem.tail _ (List.Mem.head _)))))))))) | exact List.Mem.tail _ (List.Mem.tail _ (List.Mem.tail _ (List.Mem.tail _ (List.Mem.tail _ (List.Mem.tail _ (List.Mem.tail _ (List.Mem.tail _ (List.Mem.tail _ (List.Mem.tail _ (List.Mem.tail _ (List.Mem.head _)))))))))))) rfl, _, rfl, by omega, by omega, (curP s.data.toList ws (wsum ws i + k) i : Int), fun w h => ?_, _, fun w h => h.ld (by first | exact List.Mem.head _ | exact List.Mem.tail _ (List.Mem.head _) | exact List.Mem.tail _ (List.Mem.tail _ (List.Mem.head _)) | exact List.Mem.tail _ (List.Mem.tail _ (List.Mem.tail _ (List.Mem.head _))) | exact List.Mem.tail _ (List.Mem.tail _ (List.Mem.tail _ (List.Mem.tail _ (List.Mem.head _)))) | exact List.Mem.tail _ (List.Mem.tail _ (List.Mem.tail _ (List.Mem.tail _ (List.Mem.tail _ (List.Mem.head _))))) | exact List.Mem.tail _ (List.Mem.tail _ (List.Mem.tail _ (List.Mem.tail _ (List.Mem.tail _ (List.Mem.tail _ (List.Mem.head _)))))) | exact List.Mem.tail _ (List.Mem.tail _ (List.Mem.tail _ (List.Mem.tail _ (List.Mem.tail _ (List.Mem.tail _ (List.Mem.tail _ (List.Mem.head _))))))) | exact List.Mem.tail _ (List.Mem.tail _ (List.Mem.tail _ (List.Mem.tail _ (List.Mem.tail _ (List.Mem.tail _ (List.Mem.tail _ (List.Mem.tail _ (List.Mem.head _)))))))) | exact List.Mem.tail _ (List.Mem.tail _ (List.Mem.tail _ (List.Mem.tail _ (List.Mem.tail _ (List.Mem.tail _ (List.Mem.tail _ (List.Mem.tail _ (List.Mem.tail _ (List.Mem.head _))))))))) | exact List.Mem.tail _ (List.Mem.tail _ (List.Mem.tail _ (List.Mem.tail _ (List.Mem.tail _ (List.Mem.tail _ (List.Mem.tail _ (List.Mem.tail _ (List.Mem.tail _ (List.Mem.tail _ (List.Mem.head _)))))))))) | exact List.Mem.tail _ (List.Mem.tail _ (List.Mem.tail _ (List.Mem.tail _ (List.Mem.tail _ (List.Mem.tail _ (List.Mem.tail _ (List.Mem.tail _ (List.Mem.tail _ (List.Mem.tail _ (List.Mem.tail _ (List.Mem.head _)))))))))))) rfl, ((b.toNat : Nat) : Int), fun w h => ?_, by omega, _, rfl, by omega, by omega, ?_⟩
        · obtain ⟨b', hb', _, hc⟩ := T.cell1 h (e := 53) (g := some k5) (n := ws.length) (cap := ws.length) (i := i) (by first | exact List.Mem.head _ | exact List.Mem.tail _ (List.Mem.head _) | exact List.Mem.tail _ (List.Mem.tail _ (List.Mem.head _)) | exact List.Mem.tail _ (List.Mem.tail _ (List.Mem.tail _ (List.Mem.head _))) | exact List.Mem.tail _ (List.Mem.tail _ (List.Mem.tail _ (List.Mem.tail _ (List.Mem.head _)))) | exact List.Mem.tail _ (List.Mem.tail _ (List.Mem.tail _ (List.Mem.tail _ (List.Mem.tail _ (List.Mem.head _))))) | exact List.Mem.tail _ (List.Mem.tail _ (List.Mem.tail _ (List.Mem.tail _ (List.Mem.tail _ (List.Mem.tail _ (List.Mem.head _)))))) | exact List.Mem.tail _ (List.Mem.tail _ (List.Mem.tail _ (List.Mem.tail _ (List.Mem.tail _ (List.Mem.tail _ (List.Mem.tail _ (List.Mem.head _))))))) | exact List.Mem.tail _ (List.Mem.tail _ (List.Mem.tail _ (List.Mem.tail _ (List.Mem.tail _ (List.Mem.tail _ (List.Mem.tail _ (List.Mem.tail _ (List.Mem.head _)))))))) | exact List.Mem.tail _ (List.Mem.tail _ (List.Mem.tail _ (List.Mem.tail _ (List.Mem.tail _ (List.Mem.tail _ (List.Mem.tail _ (List.Mem.tail _ (List.Mem.tail _ (List.Mem.head _))))))))) | exact List.Mem.tail _ (List.Mem.tail _ (List.Mem.tail _ (List.Mem.tail _ (List.Mem.tail _ (List.Mem.tail _ (List.Mem.tail _ (List.Mem.tail _ (List.Mem.tail _ (List.Mem.tail _ (List.Mem.head _)))))))))) | exact List.Mem.tail _ (List.Mem.tail _ (List.Mem.tail _ (List.Mem.tail _ (List.Mem.tail _ (List.Mem.tail _ (List.Mem.tail _ (List.Mem.tail _ (List.Mem.tail _ (List.Mem.tail _ (List.Mem.tail _ (List.Mem.head _)))))))))))) (u64s_get (curL_get s.data.toList ws (wsum ws i + k) hil))
          cases hb'
          rw [Int.toNat_natCast]; exact hc
        · have := index_str (P := Try.prog) (t := 9) (k := .i64) (n := 0) (s := strB (s.data.toList.drop (wsum ws i + k))) (w := w) (by kernel_rfl) (by omega) (by rw [hdl]; omega)
          rw [this]
          congr 4
        · rw [hwr, hor, ← hst, Int.toNat_natCast, addr_add, Nat.zero_add, Nat.mul_one]
          refine StRow.t h9.drew (.tail (.tail (.tail (.tail .head)))) (by rw [u64s_len, curL_len]; exact hil) rfl fun w10 h10 => ?_
          rw [curL_step s.data.toList hx hk] at h10
          refine ⟨_, h10.ld (by first | exact List.Mem.head _ | exact List.Mem.tail _ (List.Mem.head _) | exact List.Mem.tail _ (List.Mem.tail _ (List.Mem.head _)) | exact List.Mem.tail _ (List.Mem.tail _ (List.Mem.tail _ (List.Mem.head _))) | exact List.Mem.tail _ (List.Mem.tail _ (List.Mem.tail _ (List.Mem.tail _ (List.Mem.head _)))) | exact List.Mem.tail _ (List.Mem.tail _ (List.Mem.tail _ (List.Mem.tail _ (List.Mem.tail _ (List.Mem.head _))))) | exact List.Mem.tail _ (List.Mem.tail _ (List.Mem.tail _ (List.Mem.tail _ (List.Mem.tail _ (List.Mem.tail _ (List.Mem.head _)))))) | exact List.Mem.tail _ (List.Mem.tail _ (List.Mem.tail _ (List.Mem.tail _ (List.Mem.tail _ (List.Mem.tail _ (List.Mem.tail _ (List.Mem.head _))))))) | exact List.Mem.tail _ (List.Mem.tail _ (List.Mem.tail _ (List.Mem.tail _ (List.Mem.tail _ (List.Mem.tail _ (List.Mem.tail _ (List.Mem.tail _ (List.Mem.head _)))))))) | exact List.Mem.tail _ (List.Mem.tail _ (List.Mem.tail _ (List.Mem.tail _ (List.Mem.tail _ (List.Mem.tail _ (List.Mem.tail _ (List.Mem.tail _ (List.Mem.tail _ (List.Mem.head _))))))))) | exact List.Mem.tail _ (List.Mem.tail _ (List.Mem.tail _ (List.Mem.tail _ (List.Mem.tail _ (List.Mem.tail _ (List.Mem.tail _ (List.Mem.tail _ (List.Mem.tail _ (List.Mem.tail _ (List.Mem.head _)))))))))) | exact List.Mem.tail _ (List.Mem.tail _ (List.Mem.tail _ (List.Mem.tail _ (List.Mem.tail _ (List.Mem.tail _ (List.Mem.tail _ (List.Mem.tail _ (List.Mem.tail _ (List.Mem.tail _ (List.Mem.tail _ (List.Mem.head _)))))))))))) rfl, _, _, slice_from (by kernel_rfl) (by omega) (by rw [hdl]; omega), ?_⟩
          have hex : (strB (s.data.toList.drop (wsum ws i + k))).extract (1 : Int).toNat (strB (s.data.toList.drop (wsum ws i + k))).size = strB (s.data.toList.drop (wsum ws i + k + 1)) := by
            rw [strB_extract, strB_size, List.drop_drop, List.take_of_length_le (by simp; omega)]
            rfl
          rw [hex]
          refine St.t h10 (by first | exact Turn.head | exact Turn.tail (Turn.head) | exact Turn.tail (Turn.tail (Turn.head)) | exact Turn.tail (Turn.tail (Turn.tail (Turn.head))) | exact Turn.tail (Turn.tail (Turn.tail (Turn.tail (Turn.head)))) | exact Turn.tail (Turn.tail (Turn.tail (Turn.tail (Turn.tail (Turn.head))))) | exact Turn.tail (Turn.tail (Turn.tail (Turn.tail (Turn.tail (Turn.tail (Turn.head)))))) | exact Turn.tail (Turn.tail (Turn.tail (Turn.tail (Turn.tail (Turn.tail (Turn.tail (Turn.head))))))) | exact Turn.tail (Turn.tail (Turn.tail (Turn.tail (Turn.tail (Turn.tail (Turn.tail (Turn.tail (Turn.head)))))))) | exact Turn.tail (Turn.tail (Turn.tail (Turn.tail (Turn.tail (Turn.tail (Turn.tail (Turn.tail (Turn.tail (Turn.head))))))))) | exact Turn.tail (Turn.tail (Turn.tail (Turn.tail (Turn.tail (Turn.tail (Turn.tail (Turn.tail (Turn.tail (Turn.tail (Turn.head)))))))))) | exact Turn.tail (Turn.tail (Turn.tail (Turn.tail (Turn.tail (Turn.tail (Turn.tail (Turn.tail (Turn.tail (Turn.tail (Turn.tail (Turn.head)))))))))))) (by simp) (by rfl) rfl fun w11 h11 => hK _ w11 rfl ?_
          exact h11.swap (Pick.perm (.tail (.tail (.tail (.tail .head))))).symm
    · rintro d Γ' w' rfl h'
      rw [curL_all] at h'
      refine ⟨_, _, _, h'.ld (by first | exact List.Mem.head _ | exact List.Mem.tail _ (List.Mem.head _) | exact List.Mem.tail _ (List.Mem.tail _ (List.Mem.head _)) | exact List.Mem.tail _ (List.Mem.tail _ (List.Mem.tail _ (List.Mem.head _))) | exact List.Mem.tail _ (List.Mem.tail _ (List.Mem.tail _ (List.Mem.tail _ (List.Mem.head _)))) | exact List.Mem.tail _ (List.Mem.tail _ (List.Mem.tail _ (List.Mem.tail _ (List.Mem.tail _ (List.Mem.head _))))) | exact List.Mem.tail _ (List.Mem.tail _ (List.Mem.tail _ (List.Mem.tail _ (List.Mem.tail _ (List.Mem.tail _ (List.Mem.head _)))))) | exact List.Mem.tail _ (List.Mem.tail _ (List.Mem.tail _ (List.Mem.tail _ (List.Mem.tail _ (List.Mem.tail _ (List.Mem.tail _ (List.Mem.head _))))))) | exact List.Mem.tail _ (List.Mem.tail _ (List.Mem.tail _ (List.Mem.tail _ (List.Mem.tail _ (List.Mem.tail _ (List.Mem.tail _ (List.Mem.tail _ (List.Mem.head _)))))))) | exact List.Mem.tail _ (List.Mem.tail _ (List.Mem.tail _ (List.Mem.tail _ (List.Mem.tail _ (List.Mem.tail _ (List.Mem.tail _ (List.Mem.tail _ (List.Mem.tail _ (List.Mem.head _))))))))) | exact List.Mem.tail _ (List.Mem.tail _ (List.Mem.tail _ (List.Mem.tail _ (List.Mem.tail _ (List.Mem.tail _ (List.Mem.tail _ (List.Mem.tail _ (List.Mem.tail _ (List.Mem.tail _ (List.Mem.head _)))))))))) | exact List.Mem.tail _ (List.Mem.tail _ (List.Mem.tail _ (List.Mem.tail _ (List.Mem.tail _ (List.Mem.tail _ (List.Mem.tail _ (List.Mem.tail _ (List.Mem.tail _ (List.Mem.tail _ (List.Mem.tail _ (List.Mem.head _)))))))))))) rfl, ?_⟩
      refine shut_mark (Q := fun w2 => ∃ b, (Value.tuple #[.slice (ptr (some k5)) ws.length ws.length, .int .i64 0]) = .tuple #[.slice (ptr (some b)) ws.length ws.length, .int .i64 0] ∧ T F w0 w2 (rowP 53 1 (some b) ws.length ws.length (u64s (decP s.data.toList ws)) :: Γ)) h' fun w2 h2 => ⟨k5, rfl, T.dropAt h2.drop.drop (.tail .head)⟩
end Go.Proofs.Ytdppllkjibfjcaa
