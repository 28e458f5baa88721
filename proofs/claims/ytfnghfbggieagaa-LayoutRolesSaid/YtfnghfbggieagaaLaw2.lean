import Derived.Test.YtfnghfbggieagaaLaw1
/-! layout: the laws, on. -/
namespace Go.Proofs.Ytfnghfbggieagaa
open Go.Sh
set_option linter.unusedVariables false
set_option maxHeartbeats 4000000
theorem tells_spec (c k r row i off s : Int) (w : World) (hs : -9223372036854775808 ≤ s ∧ s ≤ 9223372036854775807) :
    Ret Try.prog 8 #[.agg #[.int .i64 c, .int .i64 k, .int .i64 r], .int .i64 row, .int .i64 i, .int .i64 off, .int .i64 s] w (.bool true) := by
  refine ret_of (revetmentlaw07_LayoutTells_calls ?_)
  unfold revetmentlaw07_LayoutTells
  have hS := S.start w
  repeat' (first | (refine Alloc.s (by assumption) ?_; intro _ _ _) | (refine St.s (by assumption) (by first | exact Upd.head | exact Upd.tail (Upd.head) | exact Upd.tail (Upd.tail (Upd.head)) | exact Upd.tail (Upd.tail (Upd.tail (Upd.head))) | exact Upd.tail (Upd.tail (Upd.tail (Upd.tail (Upd.head)))) | exact Upd.tail (Upd.tail (Upd.tail (Upd.tail (Upd.tail (Upd.head))))) | exact Upd.tail (Upd.tail (Upd.tail (Upd.tail (Upd.tail (Upd.tail (Upd.head)))))) | exact Upd.tail (Upd.tail (Upd.tail (Upd.tail (Upd.tail (Upd.tail (Upd.tail (Upd.head))))))) | exact Upd.tail (Upd.tail (Upd.tail (Upd.tail (Upd.tail (Upd.tail (Upd.tail (Upd.tail (Upd.head)))))))) | exact Upd.tail (Upd.tail (Upd.tail (Upd.tail (Upd.tail (Upd.tail (Upd.tail (Upd.tail (Upd.tail (Upd.head))))))))) | exact Upd.tail (Upd.tail (Upd.tail (Upd.tail (Upd.tail (Upd.tail (Upd.tail (Upd.tail (Upd.tail (Upd.tail (Upd.head)))))))))) | exact Upd.tail (Upd.tail (Upd.tail (Upd.tail (Upd.tail (Upd.tail (Upd.tail (Upd.tail (Upd.tail (Upd.tail (Upd.tail (Upd.head)))))))))))) (by simp) (by rfl) rfl ?_; intro _ _) | (exact S.ld (by assumption) (by first | exact List.Mem.head _ | exact List.Mem.tail _ (List.Mem.head _) | exact List.Mem.tail _ (List.Mem.tail _ (List.Mem.head _)) | exact List.Mem.tail _ (List.Mem.tail _ (List.Mem.tail _ (List.Mem.head _))) | exact List.Mem.tail _ (List.Mem.tail _ (List.Mem.tail _ (List.Mem.tail _ (List.Mem.head _)))) | exact List.Mem.tail _ (List.Mem.tail _ (List.Mem.tail _ (List.Mem.tail _ (List.Mem.tail _ (List.Mem.head _))))) | exact List.Mem.tail _ (List.Mem.tail _ (List.Mem.tail _ (List.Mem.tail _ (List.Mem.tail _ (List.Mem.tail _ (List.Mem.head _)))))) | exact List.Mem.tail _ (List.Mem.tail _ (List.Mem.tail _ (List.Mem.tail _ (List.Mem.tail _ (List.Mem.tail _ (List.Mem.tail _ (List.Mem.head _))))))) | exact List.Mem.tail _ (List.Mem.tail _ (List.Mem.tail _ (List.Mem.tail _ (List.Mem.tail _ (List.Mem.tail _ (List.Mem.tail _ (List.Mem.tail _ (List.Mem.head _)))))))) | exact List.Mem.tail _ (List.Mem.tail _ (List.Mem.tail _ (List.Mem.tail _ (List.Mem.tail _ (List.Mem.tail _ (List.Mem.tail _ (List.Mem.tail _ (List.Mem.tail _ (List.Mem.head _))))))))) | exact List.Mem.tail _ (List.Mem.tail _ (List.Mem.tail _ (List.Mem.tail _ (List.Mem.tail _ (List.Mem.tail _ (List.Mem.tail _ (List.Mem.tail _ (List.Mem.tail _ (List.Mem.tail _ (List.Mem.head _)))))))))) | exact List.Mem.tail _ (List.Mem.tail _ (List.Mem.tail _ (List.Mem.tail _ (List.Mem.tail _ (List.Mem.tail _ (List.Mem.tail _ (List.Mem.tail _ (List.Mem.tail _ (List.Mem.tail _ (List.Mem.tail _ (List.Mem.head _)))))))))))) (by rfl)) | (refine lex_s (by assumption) ?_; intro _) | (refine Ret.useS (by assumption) (find_spec _ _ _ _ _) ?_; intro _ _) | (refine Ret.useS (by assumption) (rfind_spec _ _ _ _ _) ?_; intro _ _) | (refine Ret.useS (by assumption) (parity_spec _ _ _ _ _) ?_; intro _ _) | (refine Ret.useS (by assumption) (rparity_spec _ _ _ _ _) ?_; intro _ _) | (refine Ret.useS (by assumption) (back_spec _ _ _ _ _ _ _) ?_; intro _ _) | (refine Ret.useS (by assumption) (rback_spec _ _ _ _ _ _ _) ?_; intro _ _) | (refine Ret.useS (by assumption) (check_spec _ _ _ _) ?_; intro _ _) | (refine Ret.useS (by assumption) (rcheck_spec _ _ _ _) ?_; intro _ _) | (refine Ret.useS (by assumption) (size_spec _ _ _ _) ?_; intro _ _) | (refine Ret.useS (by assumption) (rsize_spec _ _ _ _) ?_; intro _ _) | (refine Ret.useS (by assumption) (need_spec _ _ _ _) ?_; intro _ _) | (refine Ret.useS (by assumption) (rneed_spec _ _ _ _) ?_; intro _ _) | (refine Ret.useS (by assumption) (rows_spec _ _ _ hs) ?_; intro _ _) | (refine Ret.useS (by assumption) (rrows_spec _ _ _ hs) ?_; intro _ _) | (refine Ret.useS (by assumption) (column_spec _ _ _ _ _ _) ?_; intro _ _) | (refine Ret.useS (by assumption) (rcolumn_spec _ _ _ _ _ _) ?_; intro _ _) | (refine Ret.useS (by assumption) (role_spec _ _ _ _ _ _) ?_; intro _ _) | (refine Ret.useS (by assumption) (rrole_spec _ _ _ _ _ _) ?_; intro _ _) | (refine Ret.useS (by assumption) (sector_spec _ _ _ _ _ _) ?_; intro _ _) | (refine Ret.useS (by assumption) (rsector_spec _ _ _ _ _ _) ?_; intro _ _) | (refine Ret.useS (by assumption) (shown_spec _) ?_; intro _ _) | (refine Join.intro fun J hJ => ?_) | (refine hJ _ _ ?_) | (refine ⟨_, _, min_run _ _ _ _ _ _, ?_⟩) | (refine ⟨_, _, max_run _ _ _ _ _ _, ?_⟩) | (refine dec_t ?_; intro _) | (refine dec_f ?_; intro _) | (refine not_t ?_) | (refine not_f ?_) | (refine beq_t ?_; intro _) | (refine beq_f ?_; intro _) | (refine bne_t ?_; intro _) | (refine bne_f ?_; intro _) | (with_reducible apply Exists.intro) | (exact rfl) | (exact S.ext (by assumption)) | (show (_ : Int) ≤ _; omega) | (show (_ : Int) < _; omega) | (show (_ : Int) ≠ _; omega) | (with_reducible apply And.intro) | (intro _) | (assumption))
  all_goals exact absurd rfl (by assumption)
theorem mod_next {s k : Int} (hk : 1 ≤ k) : (s + 1) % k = if s % k + 1 = k then 0 else s % k + 1 := by
  have h1 := mod_bd s (c := k) (by omega)
  rw [Int.add_emod]
  by_cases h : k = 1
  · subst h; simp
  · rw [Int.emod_eq_of_lt (show (0 : Int) ≤ 1 by omega) (by omega), mod2 _ _ (by omega) (by omega)]
    split <;> split <;> omega
theorem div_next {s k : Int} (hk : 1 ≤ k) : (s + 1) / k = if s % k + 1 = k then s / k + 1 else s / k := by
  have h1 := mod_bd s (c := k) (by omega)
  have h2 : s + 1 = (s % k + 1) + k * (s / k) := by have := Int.emod_add_mul_ediv s k; omega
  rw [h2, Int.add_mul_ediv_left _ _ (by omega)]
  split
  · rename_i h; rw [h, Int.ediv_self (by omega)]
    have h3 : (s % k + 1 + k * (s / k)) = s + 1 := h2.symm
    rw [h] at h3
    omega
  · rw [Int.ediv_eq_zero_of_lt (by omega) (by omega)]; omega
/-- a sector that lies in the size: where it is -/
theorem find_in {c k r s : Int} (h : OkG c k r) (h0 : 0 ≤ s) (h1 : s < sizeG c k r) :
    findG c k r s = (s / k / (c - 2), s / k % (c - 2), s % k, 0) ∧ 0 ≤ s / k / (c - 2) ∧ s / k / (c - 2) < r ∧ 0 ≤ s / k % (c - 2) ∧ s / k % (c - 2) < c - 2 ∧ 0 ≤ s % k ∧ s % k < k ∧ s % k + k * (s / k % (c - 2) + (c - 2) * (s / k / (c - 2))) = s := by
  have hk : 1 ≤ k ∧ 4 ≤ c := by grind [OkG]
  have a1 := mod_bd s (c := k) (by omega)
  have a2 := mod_bd (s / k) (c := c - 2) (by omega)
  have a3 := div_bd h0 hk.1
  have a4 := div_bd (a := s / k) (k := c - 2) a3.1 (by omega)
  refine ⟨by unfold findG; rw [if_neg (by simpa using h), if_neg (by omega)], a4.1, ?_, a2.1, a2.2, a1.1, a1.2, ?_⟩
  · rw [Int.ediv_ediv_of_nonneg (by omega)]
    refine Int.ediv_lt_of_lt_mul (Int.mul_pos (by omega) (by omega)) ?_
    rw [← Int.mul_assoc]
    simpa only [sizeG, if_pos h] using h1
  · rw [Int.emod_add_mul_ediv, Int.emod_add_mul_ediv]
theorem find_out {c k r s : Int} (h : OkG c k r) (h1 : s ≥ sizeG c k r) : findG c k r s = (0, 0, 0, 70) := by
  unfold findG; rw [if_neg (by simpa using h), if_pos (.inr h1)]
theorem find_at {c k r x s a b o e : Int} (w : World) (hx : x = s) (h : findG c k r s = (a, b, o, e)) : Ret Try.prog 18 #[.agg #[.int .i64 c, .int .i64 k, .int .i64 r], .int .i64 x] w (.tuple #[.int .i64 a, .int .i64 b, .int .i64 o, .int .i64 e]) := by
  have := find_spec c k r x w
  rw [hx, h] at this
  rw [hx]
  exact this
theorem back_at {c k r row i off s e : Int} (w : World) (h : backG c k r row i off = (s, e)) : Ret Try.prog 19 #[.agg #[.int .i64 c, .int .i64 k, .int .i64 r], .int .i64 row, .int .i64 i, .int .i64 off] w (.tuple #[.int .i64 s, .int .i64 e]) := by
  have := back_spec c k r row i off w
  rw [h] at this
  exact this
theorem sizeG_eq {c k r : Int} (h : OkG c k r) : sizeG c k r = r * k * (c - 2) := by simp only [sizeG, if_pos h]
theorem size_at {c k r n : Int} (w : World) (h : sizeG c k r = n) : Ret Try.prog 17 #[.agg #[.int .i64 c, .int .i64 k, .int .i64 r]] w (.int .i64 n) := h ▸ size_spec _ _ _ _
theorem back_law (a b d z : Int) (w : World) (ha : 0 ≤ a ∧ a ≤ 255) (hb : 0 ≤ b ∧ b ≤ 255) (hd : 0 ≤ d ∧ d ≤ 255) (hz : 0 ≤ z ∧ z ≤ 65535) :
    Ret Try.prog 6 #[.int .u8 a, .int .u8 b, .int .u8 d, .int .u16 z] w (.bool true) := by
  refine ret_of (revetmentlaw07_LayoutBack_calls ?_)
  unfold revetmentlaw07_LayoutBack
  have hS := S.start w
  obtain ⟨c, hc⟩ : ∃ c, c = 4 + a % 7 := ⟨_, rfl⟩
  obtain ⟨k, hk⟩ : ∃ k, k = 1 + b % 4 := ⟨_, rfl⟩
  obtain ⟨r, hr⟩ : ∃ r, r = 1 + d := ⟨_, rfl⟩
  have hg : OkG c k r := ok_law ha hb hd hc hk hr
  have hc' : 4 ≤ c ∧ c ≤ 10 ∧ 1 ≤ k ∧ k ≤ 4 := by grind [OkG]
  have hn2 := size_bd hg
  rw [← sizeG_eq hg] at hn2
  obtain ⟨n, hn⟩ : ∃ n, sizeG c k r = n := ⟨_, rfl⟩
  rw [hn] at hn2
  obtain ⟨s, hs⟩ : ∃ s, s = z % n := ⟨_, rfl⟩
  have b1 := mod_bd z (c := n) (by omega)
  rw [← hs] at b1
  have e0 : Int.tmod (IntKind.i64.wrap z) n = s := by rw [wrap64 z (by omega) (by omega), tmod_nn hz.1, hs]
  have e1 : IntKind.i64.wrap (Int.tmod (IntKind.i64.wrap z) n + 1) = s + 1 := by rw [e0, wrap64 _ (by omega) (by omega)]
  obtain ⟨f1, f2, f3, f4, f5, f6, f7, f8⟩ := find_in hg b1.1 (by omega)
  have m1 := mod_next (s := s) hc'.2.2.1
  have m2 := div_next (s := s) hc'.2.2.1
  have m3 := mod_next (s := s / k) (k := c - 2) (by omega)
  have m4 := div_next (s := s / k) (k := c - 2) (by omega)
  have hbk : backG c k r (s / k / (c - 2)) (s / k % (c - 2)) (s % k) = (s, 0) := by
    unfold backG
    rw [if_neg (by simpa using hg), if_pos ⟨inG_of hg ⟨f2, f3⟩ ⟨f4, f5⟩, inG_of hg ⟨f2, f3⟩ ⟨f6, f7⟩⟩, f8]
  have w2 : IntKind.i64.wrap (c - 2) = c - 2 := wrap64 _ (by omega) (by omega)
  by_cases hlast : s + 1 = n
  · have g1 := find_out (s := s + 1) hg (by omega)
    generalize s / k / (c - 2) = row at *
    generalize s / k % (c - 2) = i at *
    generalize s % k = off at *
    repeat' (first | (refine Alloc.s (by assumption) ?_; intro _ _ _) | (refine St.s (by assumption) (by first | exact Upd.head | exact Upd.tail (Upd.head) | exact Upd.tail (Upd.tail (Upd.head)) | exact Upd.tail (Upd.tail (Upd.tail (Upd.head))) | exact Upd.tail (Upd.tail (Upd.tail (Upd.tail (Upd.head)))) | exact Upd.tail (Upd.tail (Upd.tail (Upd.tail (Upd.tail (Upd.head))))) | exact Upd.tail (Upd.tail (Upd.tail (Upd.tail (Upd.tail (Upd.tail (Upd.head)))))) | exact Upd.tail (Upd.tail (Upd.tail (Upd.tail (Upd.tail (Upd.tail (Upd.tail (Upd.head))))))) | exact Upd.tail (Upd.tail (Upd.tail (Upd.tail (Upd.tail (Upd.tail (Upd.tail (Upd.tail (Upd.head)))))))) | exact Upd.tail (Upd.tail (Upd.tail (Upd.tail (Upd.tail (Upd.tail (Upd.tail (Upd.tail (Upd.tail (Upd.head))))))))) | exact Upd.tail (Upd.tail (Upd.tail (Upd.tail (Upd.tail (Upd.tail (Upd.tail (Upd.tail (Upd.tail (Upd.tail (Upd.head)))))))))) | exact Upd.tail (Upd.tail (Upd.tail (Upd.tail (Upd.tail (Upd.tail (Upd.tail (Upd.tail (Upd.tail (Upd.tail (Upd.tail (Upd.head)))))))))))) (by simp) (by rfl) rfl ?_; intro _ _) | (exact S.ld (by assumption) (by first | exact List.Mem.head _ | exact List.Mem.tail _ (List.Mem.head _) | exact List.Mem.tail _ (List.Mem.tail _ (List.Mem.head _)) | exact List.Mem.tail _ (List.Mem.tail _ (List.Mem.tail _ (List.Mem.head _))) | exact List.Mem.tail _ (List.Mem.tail _ (List.Mem.tail _ (List.Mem.tail _ (List.Mem.head _)))) | exact List.Mem.tail _ (List.Mem.tail _ (List.Mem.tail _ (List.Mem.tail _ (List.Mem.tail _ (List.Mem.head _))))) | exact List.Mem.tail _ (List.Mem.tail _ (List.Mem.tail _ (List.Mem.tail _ (List.Mem.tail _ (List.Mem.tail _ (List.Mem.head _)))))) | exact List.Mem.tail _ (List.Mem.tail _ (List.Mem.tail _ (List.Mem.tail _ (List.Mem.tail _ (List.Mem.tail _ (List.Mem.tail _ (List.Mem.head _))))))) | exact List.Mem.tail _ (List.Mem.tail _ (List.Mem.tail _ (List.Mem.tail _ (List.Mem.tail _ (List.Mem.tail _ (List.Mem.tail _ (List.Mem.tail _ (List.Mem.head _)))))))) | exact List.Mem.tail _ (List.Mem.tail _ (List.Mem.tail _ (List.Mem.tail _ (List.Mem.tail _ (List.Mem.tail _ (List.Mem.tail _ (List.Mem.tail _ (List.Mem.tail _ (List.Mem.head _))))))))) | exact List.Mem.tail _ (List.Mem.tail _ (List.Mem.tail _ (List.Mem.tail _ (List.Mem.tail _ (List.Mem.tail _ (List.Mem.tail _ (List.Mem.tail _ (List.Mem.tail _ (List.Mem.tail _ (List.Mem.head _)))))))))) | exact List.Mem.tail _ (List.Mem.tail _ (List.Mem.tail _ (List.Mem.tail _ (List.Mem.tail _ (List.Mem.tail _ (List.Mem.tail _ (List.Mem.tail _ (List.Mem.tail _ (List.Mem.tail _ (List.Mem.tail _ (List.Mem.head _)))))))))))) (by rfl)) | (refine lex_s (by assumption) ?_; intro _) | (refine Ret.useS (by assumption) (good_law _ _ _ _ _ _ _ ha hb hd hc hk hr) ?_; intro _ _) | (refine Ret.useS (by assumption) (size_at _ hn) ?_; intro _ _) | (refine Ret.useS (by assumption) (shown_spec _) ?_; intro _ _) | (refine Ret.useS (by assumption) (find_at _ (by first | exact e0 | exact e1) (by first | exact f1 | exact g1)) ?_; intro _ _) | (refine Ret.useS (by assumption) (back_at _ hbk) ?_; intro _ _) | (refine Join.intro fun J hJ => ?_) | (refine hJ _ _ ?_) | (refine ⟨_, _, min_run _ _ _ _ _ _, ?_⟩) | (refine ⟨_, _, max_run _ _ _ _ _ _, ?_⟩) | (refine dec_t ?_; intro _) | (refine dec_f ?_; intro _) | (refine not_t ?_) | (refine not_f ?_) | (refine beq_t ?_; intro _) | (refine beq_f ?_; intro _) | (refine bne_t ?_; intro _) | (refine bne_f ?_; intro _) | (with_reducible apply Exists.intro) | (exact rfl) | (exact S.ext (by assumption)) | (show (_ : Int) ≤ _; omega) | (show (_ : Int) < _; omega) | (show (_ : Int) ≠ _; omega) | (with_reducible apply And.intro) | (intro _) | (assumption))
    all_goals first | omega | contradiction
  · obtain ⟨g1, g2, g3, g4, g5, g6, g7, g8⟩ := find_in (s := s + 1) hg (by omega) (by omega)
    rw [m1, m2] at g1
    have g9 : ∃ row' i' off', findG c k r (s + 1) = (row', i', off', 0) ∧ (row' = s / k / (c - 2) ∧ i' = s / k % (c - 2) ∧ off' = s % k + 1 ∨ off' = 0 ∧ row' = s / k / (c - 2) ∧ i' = s / k % (c - 2) + 1 ∨ off' = 0 ∧ i' = 0 ∧ row' = s / k / (c - 2) + 1) := by
      refine ⟨_, _, _, g1, ?_⟩
      split
      · rw [m3, m4]
        split <;> simp
      · simp
    obtain ⟨row', i', off', g0, hrel⟩ := g9
    clear m1 m2 m3 m4 g1 g2 g3 g4 g5 g6 g7 g8
    generalize s / k / (c - 2) = row at *
    generalize s / k % (c - 2) = i at *
    generalize s % k = off at *
    have hr2 : 1 ≤ r ∧ r ≤ 256 := by grind [OkG]
    have w3 : IntKind.i64.wrap (row + 1) = row + 1 := wrap64 _ (by omega) (by omega)
    have w4 : IntKind.i64.wrap (i + 1) = i + 1 := wrap64 _ (by omega) (by omega)
    have w5 : IntKind.i64.wrap (off + 1) = off + 1 := wrap64 _ (by omega) (by omega)
    repeat' (first | (refine Alloc.s (by assumption) ?_; intro _ _ _) | (refine St.s (by assumption) (by first | exact Upd.head | exact Upd.tail (Upd.head) | exact Upd.tail (Upd.tail (Upd.head)) | exact Upd.tail (Upd.tail (Upd.tail (Upd.head))) | exact Upd.tail (Upd.tail (Upd.tail (Upd.tail (Upd.head)))) | exact Upd.tail (Upd.tail (Upd.tail (Upd.tail (Upd.tail (Upd.head))))) | exact Upd.tail (Upd.tail (Upd.tail (Upd.tail (Upd.tail (Upd.tail (Upd.head)))))) | exact Upd.tail (Upd.tail (Upd.tail (Upd.tail (Upd.tail (Upd.tail (Upd.tail (Upd.head))))))) | exact Upd.tail (Upd.tail (Upd.tail (Upd.tail (Upd.tail (Upd.tail (Upd.tail (Upd.tail (Upd.head)))))))) | exact Upd.tail (Upd.tail (Upd.tail (Upd.tail (Upd.tail (Upd.tail (Upd.tail (Upd.tail (Upd.tail (Upd.head))))))))) | exact Upd.tail (Upd.tail (Upd.tail (Upd.tail (Upd.tail (Upd.tail (Upd.tail (Upd.tail (Upd.tail (Upd.tail (Upd.head)))))))))) | exact Upd.tail (Upd.tail (Upd.tail (Upd.tail (Upd.tail (Upd.tail (Upd.tail (Upd.tail (Upd.tail (Upd.tail (Upd.tail (Upd.head)))))))))))) (by simp) (by rfl) rfl ?_; intro _ _) | (exact S.ld (by assumption) (by first | exact List.Mem.head _ | exact List.Mem.tail _ (List.Mem.head _) | exact List.Mem.tail _ (List.Mem.tail _ (List.Mem.head _)) | exact List.Mem.tail _ (List.Mem.tail _ (List.Mem.tail _ (List.Mem.head _))) | exact List.Mem.tail _ (List.Mem.tail _ (List.Mem.tail _ (List.Mem.tail _ (List.Mem.head _)))) | exact List.Mem.tail _ (List.Mem.tail _ (List.Mem.tail _ (List.Mem.tail _ (List.Mem.tail _ (List.Mem.head _))))) | exact List.Mem.tail _ (List.Mem.tail _ (List.Mem.tail _ (List.Mem.tail _ (List.Mem.tail _ (List.Mem.tail _ (List.Mem.head _)))))) | exact List.Mem.tail _ (List.Mem.tail _ (List.Mem.tail _ (List.Mem.tail _ (List.Mem.tail _ (List.Mem.tail _ (List.Mem.tail _ (List.Mem.head _))))))) | exact List.Mem.tail _ (List.Mem.tail _ (List.Mem.tail _ (List.Mem.tail _ (List.Mem.tail _ (List.Mem.tail _ (List.Mem.tail _ (List.Mem.tail _ (List.Mem.head _)))))))) | exact List.Mem.tail _ (List.Mem.tail _ (List.Mem.tail _ (List.Mem.tail _ (List.Mem.tail _ (List.Mem.tail _ (List.Mem.tail _ (List.Mem.tail _ (List.Mem.tail _ (List.Mem.head _))))))))) | exact List.Mem.tail _ (List.Mem.tail _ (List.Mem.tail _ (List.Mem.tail _ (List.Mem.tail _ (List.Mem.tail _ (List.Mem.tail _ (List.Mem.tail _ (List.Mem.tail _ (List.Mem.tail _ (List.Mem.head _)))))))))) | exact List.Mem.tail _ (List.Mem.tail _ (List.Mem.tail _ (List.Mem.tail _ (List.Mem.tail _ (List.Mem.tail _ (List.Mem.tail _ (List.Mem.tail _ (List.Mem.tail _ (List.Mem.tail _ (List.Mem.tail _ (List.Mem.head _)))))))))))) (by rfl)) | (refine lex_s (by assumption) ?_; intro _) | (refine Ret.useS (by assumption) (good_law _ _ _ _ _ _ _ ha hb hd hc hk hr) ?_; intro _ _) | (refine Ret.useS (by assumption) (size_at _ hn) ?_; intro _ _) | (refine Ret.useS (by assumption) (shown_spec _) ?_; intro _ _) | (refine Ret.useS (by assumption) (find_at _ (by first | exact e0 | exact e1) (by first | exact f1 | exact g0)) ?_; intro _ _) | (refine Ret.useS (by assumption) (back_at _ hbk) ?_; intro _ _) | (refine Join.intro fun J hJ => ?_) | (refine hJ _ _ ?_) | (refine ⟨_, _, min_run _ _ _ _ _ _, ?_⟩) | (refine ⟨_, _, max_run _ _ _ _ _ _, ?_⟩) | (refine dec_t ?_; intro _) | (refine dec_f ?_; intro _) | (refine not_t ?_) | (refine not_f ?_) | (refine beq_t ?_; intro _) | (refine beq_f ?_; intro _) | (refine bne_t ?_; intro _) | (refine bne_f ?_; intro _) | (with_reducible apply Exists.intro) | (exact rfl) | (exact S.ext (by assumption)) | (show (_ : Int) ≤ _; omega) | (show (_ : Int) < _; omega) | (show (_ : Int) ≠ _; omega) | (with_reducible apply And.intro) | (intro _) | (assumption))
    clear g0 f1 hbk
    all_goals first | omega | contradiction | (refine retBool ?_; rw [beq_iff_eq]; omega)
end Go.Proofs.Ytfnghfbggieagaa
