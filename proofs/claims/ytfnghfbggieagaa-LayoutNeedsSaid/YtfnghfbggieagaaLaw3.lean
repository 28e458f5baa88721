import Derived.Test.YtfnghfbggieagaaLaw2
/-! layout: the laws, on: needs, apart. -/
namespace Go.Proofs.Ytfnghfbggieagaa
open Go.Sh
set_option linter.unusedVariables false
set_option maxHeartbeats 4000000
theorem need_at {c k r n : Int} (w : World) (h : needG c k r = n) : Ret Try.prog 14 #[.agg #[.int .i64 c, .int .i64 k, .int .i64 r]] w (.int .i64 n) := h ▸ need_spec _ _ _ _
theorem rows_at {x y k m : Int} (w : World) (hx : x = y) (hy : -9223372036854775808 ≤ y ∧ y ≤ 9223372036854775807) (h : rowsG y k = m) : Ret Try.prog 16 #[.int .i64 x, .int .i64 k] w (.int .i64 m) := by
  subst hx; subst h; exact rows_spec _ _ _ hy
theorem sector_at {c k r x row y o s : Int} (w : World) (hx : x = row) (hy : y = o) (h : sectorG c k r row o = s) : Ret Try.prog 15 #[.agg #[.int .i64 c, .int .i64 k, .int .i64 r], .int .i64 x, .int .i64 y] w (.int .i64 s) := by
  subst hx; subst hy; subst h; exact sector_spec _ _ _ _ _ _
theorem sectorG_eq {c k r row o : Int} (h : InG c k r row o k) : sectorG c k r row o = 4 + k * row + o := by simp only [sectorG, if_pos h]
theorem rowsG_eq {n k : Int} (hk : 1 ≤ k ∧ k ≤ 4) (hn : 4 ≤ n) : rowsG n k = min ((n - 4) / k) 256 := by simp only [rowsG, if_pos hk]; rw [if_neg (by omega)]
theorem needs_law (a b d u v z : Int) (w : World) (ha : 0 ≤ a ∧ a ≤ 255) (hb : 0 ≤ b ∧ b ≤ 255) (hd : 0 ≤ d ∧ d ≤ 255) (hu : 0 ≤ u ∧ u ≤ 255) (hv : 0 ≤ v ∧ v ≤ 255) (hz : 0 ≤ z ∧ z ≤ 65535) :
    Ret Try.prog 5 #[.int .u8 a, .int .u8 b, .int .u8 d, .int .u8 u, .int .u8 v, .int .u16 z] w (.bool true) := by
  refine ret_of (revetmentlaw07_LayoutNeeds_calls ?_)
  unfold revetmentlaw07_LayoutNeeds
  have hS := S.start w
  obtain ⟨c, hc⟩ : ∃ c, c = 4 + a % 7 := ⟨_, rfl⟩
  obtain ⟨k, hk⟩ : ∃ k, k = 1 + b % 4 := ⟨_, rfl⟩
  obtain ⟨r, hr⟩ : ∃ r, r = 1 + d := ⟨_, rfl⟩
  have hg : OkG c k r := ok_law ha hb hd hc hk hr
  have hc' : 4 ≤ c ∧ c ≤ 10 ∧ 1 ≤ k ∧ k ≤ 4 ∧ 1 ≤ r ∧ r ≤ 256 := hg
  have hrk := rk_bd hg
  have hn : needG c k r = 4 + r * k := by simp only [needG, if_pos hg]
  obtain ⟨row, hrow⟩ : ∃ row, row = u % r := ⟨_, rfl⟩
  obtain ⟨o, ho⟩ : ∃ o, o = v % k := ⟨_, rfl⟩
  have b1 := mod_bd u (c := r) (by omega)
  have b2 := mod_bd v (c := k) (by omega)
  rw [← hrow] at b1
  rw [← ho] at b2
  have e0 : Int.tmod (IntKind.i64.wrap u) r = row := by rw [wrap64 u (by omega) (by omega), tmod_nn hu.1, hrow]
  have e1 : Int.tmod (IntKind.i64.wrap v) k = o := by rw [wrap64 v (by omega) (by omega), tmod_nn hv.1, ho]
  have hsec := sectorG_eq (c := c) (inG_of hg b1 b2)
  have m1 := mul_bd (a := k) (b := row) (A := 4) (B := 256) (by omega) (by omega) (by omega) (by omega)
  have m2 : k * row + k ≤ r * k := by
    have := Int.mul_le_mul_of_nonneg_left (show row + 1 ≤ r by omega) (show 0 ≤ k by omega)
    rw [Int.mul_add, Int.mul_comm k r] at this
    omega
  have e2 : IntKind.i64.wrap (Int.tdiv (IntKind.i64.wrap (4 + k * row + o - 4)) k) = row := by
    rw [wrap64 (4 + k * row + o - 4) (by omega) (by omega), show 4 + k * row + o - 4 = o + k * row by omega, tdiv_nn (by omega), Int.add_mul_ediv_left _ _ (by omega), Int.ediv_eq_zero_of_lt (by omega) (by omega), wrap64 _ (by omega) (by omega)]
    omega
  have e3 : Int.tmod (IntKind.i64.wrap (4 + k * row + o - 4)) k = o := by
    rw [wrap64 _ (by omega) (by omega), show 4 + k * row + o - 4 = o + k * row by omega, tmod_nn (by omega), Int.add_mul_emod_self_left, Int.emod_eq_of_lt (by omega) (by omega)]
  have e4 : IntKind.i64.wrap (4 + r * k + IntKind.i64.wrap z) = 4 + r * k + z := by rw [wrap64 z (by omega) (by omega), wrap64 _ (by omega) (by omega)]
  have e5 : IntKind.i64.wrap (4 + r * k - 1) = 4 + r * k - 1 := wrap64 _ (by omega) (by omega)
  have e6 : IntKind.i64.wrap (r - 1) = r - 1 := wrap64 _ (by omega) (by omega)
  have r1 : r ≤ rowsG (4 + r * k + z) k ∧ rowsG (4 + r * k + z) k ≤ 256 := by
    rw [rowsG_eq ⟨hc'.2.2.1, hc'.2.2.2.1⟩ (by omega)]
    have : r ≤ (4 + r * k + z - 4) / k := (Int.le_ediv_iff_mul_le (by omega)).2 (by omega)
    omega
  have r2 : rowsG (4 + r * k) k = r := by
    rw [rowsG_eq ⟨hc'.2.2.1, hc'.2.2.2.1⟩ (by omega), show 4 + r * k - 4 = r * k by omega, Int.mul_ediv_cancel _ (by omega)]
    omega
  have r3 : rowsG (4 + r * k - 1) k = r - 1 := by
    rw [rowsG_eq ⟨hc'.2.2.1, hc'.2.2.2.1⟩ (by omega)]
    have h5 : 4 + r * k - 1 - 4 = (k - 1) + k * (r - 1) := by rw [Int.mul_sub, Int.mul_comm k r]; omega
    rw [h5, Int.add_mul_ediv_left _ _ (by omega), Int.ediv_eq_zero_of_lt (by omega) (by omega)]
    omega
  repeat' (first | (refine Alloc.s (by assumption) ?_; intro _ _ _) | (refine St.s (by assumption) (by first | exact Upd.head | exact Upd.tail (Upd.head) | exact Upd.tail (Upd.tail (Upd.head)) | exact Upd.tail (Upd.tail (Upd.tail (Upd.head))) | exact Upd.tail (Upd.tail (Upd.tail (Upd.tail (Upd.head)))) | exact Upd.tail (Upd.tail (Upd.tail (Upd.tail (Upd.tail (Upd.head))))) | exact Upd.tail (Upd.tail (Upd.tail (Upd.tail (Upd.tail (Upd.tail (Upd.head)))))) | exact Upd.tail (Upd.tail (Upd.tail (Upd.tail (Upd.tail (Upd.tail (Upd.tail (Upd.head))))))) | exact Upd.tail (Upd.tail (Upd.tail (Upd.tail (Upd.tail (Upd.tail (Upd.tail (Upd.tail (Upd.head)))))))) | exact Upd.tail (Upd.tail (Upd.tail (Upd.tail (Upd.tail (Upd.tail (Upd.tail (Upd.tail (Upd.tail (Upd.head))))))))) | exact Upd.tail (Upd.tail (Upd.tail (Upd.tail (Upd.tail (Upd.tail (Upd.tail (Upd.tail (Upd.tail (Upd.tail (Upd.head)))))))))) | exact Upd.tail (Upd.tail (Upd.tail (Upd.tail (Upd.tail (Upd.tail (Upd.tail (Upd.tail (Upd.tail (Upd.tail (Upd.tail (Upd.head)))))))))))) (by simp) (by rfl) rfl ?_; intro _ _) | (exact S.ld (by assumption) (by first | exact List.Mem.head _ | exact List.Mem.tail _ (List.Mem.head _) | exact List.Mem.tail _ (List.Mem.tail _ (List.Mem.head _)) | exact List.Mem.tail _ (List.Mem.tail _ (List.Mem.tail _ (List.Mem.head _))) | exact List.Mem.tail _ (List.Mem.tail _ (List.Mem.tail _ (List.Mem.tail _ (List.Mem.head _)))) | exact List.Mem.tail _ (List.Mem.tail _ (List.Mem.tail _ (List.Mem.tail _ (List.Mem.tail _ (List.Mem.head _))))) | exact List.Mem.tail _ (List.Mem.tail _ (List.Mem.tail _ (List.Mem.tail _ (List.Mem.tail _ (List.Mem.tail _ (List.Mem.head _)))))) | exact List.Mem.tail _ (List.Mem.tail _ (List.Mem.tail _ (List.Mem.tail _ (List.Mem.tail _ (List.Mem.tail _ (List.Mem.tail _ (List.Mem.head _))))))) | exact List.Mem.tail _ (List.Mem.tail _ (List.Mem.tail _ (List.Mem.tail _ (List.Mem.tail _ (List.Mem.tail _ (List.Mem.tail _ (List.Mem.tail _ (List.Mem.head _)))))))) | exact List.Mem.tail _ (List.Mem.tail _ (List.Mem.tail _ (List.Mem.tail _ (List.Mem.tail _ (List.Mem.tail _ (List.Mem.tail _ (List.Mem.tail _ (List.Mem.tail _ (List.Mem.head _))))))))) | exact List.Mem.tail _ (List.Mem.tail _ (List.Mem.tail _ (List.Mem.tail _ (List.Mem.tail _ (List.Mem.tail _ (List.Mem.tail _ (List.Mem.tail _ (List.Mem.tail _ (List.Mem.tail _ (List.Mem.head _)))))))))) | exact List.Mem.tail _ (List.Mem.tail _ (List.Mem.tail _ (List.Mem.tail _ (List.Mem.tail _ (List.Mem.tail _ (List.Mem.tail _ (List.Mem.tail _ (List.Mem.tail _ (List.Mem.tail _ (List.Mem.tail _ (List.Mem.head _)))))))))))) (by rfl)) | (refine lex_s (by assumption) ?_; intro _) | (refine Ret.useS (by assumption) (good_law _ _ _ _ _ _ _ ha hb hd hc hk hr) ?_; intro _ _) | (refine Ret.useS (by assumption) (need_at _ hn) ?_; intro _ _) | (refine Ret.useS (by assumption) (sector_at _ e0 e1 hsec) ?_; intro _ _) | (refine Ret.useS (by assumption) (rows_at _ e4 (by omega) rfl) ?_; intro _ _) | (refine Ret.useS (by assumption) (rows_at _ e5 (by omega) r3) ?_; intro _ _) | (refine Ret.useS (by assumption) (rows_at _ rfl (by omega) r2) ?_; intro _ _) | (refine Ret.useS (by assumption) (shown_spec _) ?_; intro _ _) | (refine Join.intro fun J hJ => ?_) | (refine hJ _ _ ?_) | (refine ⟨_, _, min_run _ _ _ _ _ _, ?_⟩) | (refine ⟨_, _, max_run _ _ _ _ _ _, ?_⟩) | (refine dec_t ?_; intro _) | (refine dec_f ?_; intro _) | (refine not_t ?_) | (refine not_f ?_) | (refine beq_t ?_; intro _) | (refine beq_f ?_; intro _) | (refine bne_t ?_; intro _) | (refine bne_f ?_; intro _) | (with_reducible apply Exists.intro) | (exact rfl) | (exact S.ext (by assumption)) | (show (_ : Int) ≤ _; omega) | (show (_ : Int) < _; omega) | (show (_ : Int) ≠ _; omega) | (with_reducible apply And.intro) | (intro _) | (assumption))
  all_goals first | omega | contradiction | (rw [e0] at *; omega) | (rw [e1] at *; omega)
end Go.Proofs.Ytfnghfbggieagaa
