import Derived.Test.YtfnghfbggieagaaLay3
/-! layout: what the laws ask of a geometry that may be. -/
namespace Go.Proofs.Ytfnghfbggieagaa
open Go.Sh
set_option linter.unusedVariables false
set_option maxHeartbeats 4000000
theorem inG_of {c k r row n most : Int} (h : OkG c k r) (h1 : 0 ≤ row ∧ row < r) (h2 : 0 ≤ n ∧ n < most) : InG c k r row n most := ⟨h, h1.1, h1.2, h2.1, h2.2⟩
theorem par_q {c k r row : Int} (h : InG c k r row 0 1) : parQ c k r row = firstG c row := by simp only [parQ, if_pos h]
theorem par_p {c k r row : Int} (h : InG c k r row 0 1) : parP c k r row = if firstG c row = 0 then c - 1 else firstG c row - 1 := by
  have hc : 4 ≤ c ∧ c ≤ 10 := by grind [InG, OkG]
  have h1 := firstG_bd c row hc
  simp only [parP, if_pos h]
  rw [mod2 _ _ (by omega) (by omega)]; split <;> split <;> omega
theorem col_v {c k r row i : Int} (h : InG c k r row i (c - 2)) : colG c k r row i = if firstG c row + 1 + i < c then firstG c row + 1 + i else firstG c row + 1 + i - c := by
  have hc : 4 ≤ c ∧ c ≤ 10 ∧ 0 ≤ i ∧ i < c - 2 := by grind [InG, OkG]
  have h1 := firstG_bd c row ⟨hc.1, hc.2.1⟩
  simp only [colG, if_pos h]
  exact mod2 _ _ (by omega) (by omega)
theorem role_v {c k r row col : Int} (h : InG c k r row col c) : roleG c k r row col = if col = firstG c row then c - 1 else if col < firstG c row then col - firstG c row + c - 1 else col - firstG c row - 1 := by
  have hc : 4 ≤ c ∧ c ≤ 10 ∧ 0 ≤ col ∧ col < c := by grind [InG, OkG]
  have h1 := firstG_bd c row ⟨hc.1, hc.2.1⟩
  simp only [roleG, if_pos h]
  rw [mod2 _ _ (by omega) (by omega)]
  split <;> split <;> (try split) <;> (try split) <;> omega
theorem first_turn (c row : Int) : firstG c (row + c) = firstG c row := by unfold firstG; rw [Int.add_emod_right]
theorem first_next {c row : Int} (hc : 4 ≤ c) : firstG c (row + 1) = if firstG c row = 0 then c - 1 else firstG c row - 1 := by
  have h1 := mod_bd row (c := c) (by omega)
  have h2 : (row + 1) % c = if row % c + 1 = c then 0 else row % c + 1 := by
    rw [Int.add_emod, Int.emod_eq_of_lt (show (0 : Int) ≤ 1 by omega) (by omega), mod2 _ _ (by omega) (by omega)]
    split <;> split <;> omega
  have h3 := firstG_eq c row hc
  have h4 := firstG_eq c (row + 1) hc
  rw [h3, h4, h2]
  split <;> split <;> split <;> (try split) <;> omega
theorem shown_spec (w : World) : Ret Try.prog 12 #[] w (.bool true) := by
  refine ret_of (revetmentlaw07_shown_calls ?_)
  unfold revetmentlaw07_shown
  have hS := S.start w
  have e1 : parP 4 1 5 0 = 3 := by decide
  have e2 : parQ 4 1 5 0 = 0 := by decide
  have e3 : sizeG 4 1 5 = 10 := by decide
  repeat' (first | (refine Alloc.s (by assumption) ?_; intro _ _ _) | (refine St.s (by assumption) (by first | exact Upd.head | exact Upd.tail (Upd.head) | exact Upd.tail (Upd.tail (Upd.head)) | exact Upd.tail (Upd.tail (Upd.tail (Upd.head))) | exact Upd.tail (Upd.tail (Upd.tail (Upd.tail (Upd.head)))) | exact Upd.tail (Upd.tail (Upd.tail (Upd.tail (Upd.tail (Upd.head))))) | exact Upd.tail (Upd.tail (Upd.tail (Upd.tail (Upd.tail (Upd.tail (Upd.head)))))) | exact Upd.tail (Upd.tail (Upd.tail (Upd.tail (Upd.tail (Upd.tail (Upd.tail (Upd.head))))))) | exact Upd.tail (Upd.tail (Upd.tail (Upd.tail (Upd.tail (Upd.tail (Upd.tail (Upd.tail (Upd.head)))))))) | exact Upd.tail (Upd.tail (Upd.tail (Upd.tail (Upd.tail (Upd.tail (Upd.tail (Upd.tail (Upd.tail (Upd.head))))))))) | exact Upd.tail (Upd.tail (Upd.tail (Upd.tail (Upd.tail (Upd.tail (Upd.tail (Upd.tail (Upd.tail (Upd.tail (Upd.head)))))))))) | exact Upd.tail (Upd.tail (Upd.tail (Upd.tail (Upd.tail (Upd.tail (Upd.tail (Upd.tail (Upd.tail (Upd.tail (Upd.tail (Upd.head)))))))))))) (by simp) (by rfl) rfl ?_; intro _ _) | (exact S.ld (by assumption) (by first | exact List.Mem.head _ | exact List.Mem.tail _ (List.Mem.head _) | exact List.Mem.tail _ (List.Mem.tail _ (List.Mem.head _)) | exact List.Mem.tail _ (List.Mem.tail _ (List.Mem.tail _ (List.Mem.head _))) | exact List.Mem.tail _ (List.Mem.tail _ (List.Mem.tail _ (List.Mem.tail _ (List.Mem.head _)))) | exact List.Mem.tail _ (List.Mem.tail _ (List.Mem.tail _ (List.Mem.tail _ (List.Mem.tail _ (List.Mem.head _))))) | exact List.Mem.tail _ (List.Mem.tail _ (List.Mem.tail _ (List.Mem.tail _ (List.Mem.tail _ (List.Mem.tail _ (List.Mem.head _)))))) | exact List.Mem.tail _ (List.Mem.tail _ (List.Mem.tail _ (List.Mem.tail _ (List.Mem.tail _ (List.Mem.tail _ (List.Mem.tail _ (List.Mem.head _))))))) | exact List.Mem.tail _ (List.Mem.tail _ (List.Mem.tail _ (List.Mem.tail _ (List.Mem.tail _ (List.Mem.tail _ (List.Mem.tail _ (List.Mem.tail _ (List.Mem.head _)))))))) | exact List.Mem.tail _ (List.Mem.tail _ (List.Mem.tail _ (List.Mem.tail _ (List.Mem.tail _ (List.Mem.tail _ (List.Mem.tail _ (List.Mem.tail _ (List.Mem.tail _ (List.Mem.head _))))))))) | exact List.Mem.tail _ (List.Mem.tail _ (List.Mem.tail _ (List.Mem.tail _ (List.Mem.tail _ (List.Mem.tail _ (List.Mem.tail _ (List.Mem.tail _ (List.Mem.tail _ (List.Mem.tail _ (List.Mem.head _)))))))))) | exact List.Mem.tail _ (List.Mem.tail _ (List.Mem.tail _ (List.Mem.tail _ (List.Mem.tail _ (List.Mem.tail _ (List.Mem.tail _ (List.Mem.tail _ (List.Mem.tail _ (List.Mem.tail _ (List.Mem.tail _ (List.Mem.head _)))))))))))) (by rfl)) | (refine lex_s (by assumption) ?_; intro _) | (refine Ret.useS (by assumption) (parity_spec _ _ _ _ _) ?_; intro _ _) | (refine Ret.useS (by assumption) (size_spec _ _ _ _) ?_; intro _ _) | (refine Join.intro fun J hJ => ?_) | (refine hJ _ _ ?_) | (refine ⟨_, _, min_run _ _ _ _ _ _, ?_⟩) | (refine ⟨_, _, max_run _ _ _ _ _ _, ?_⟩) | (refine dec_t ?_; intro _) | (refine dec_f ?_; intro _) | (refine not_t ?_) | (refine not_f ?_) | (refine beq_t ?_; intro _) | (refine beq_f ?_; intro _) | (refine bne_t ?_; intro _) | (refine bne_f ?_; intro _) | (with_reducible apply Exists.intro) | (exact rfl) | (exact S.ext (by assumption)) | (show (_ : Int) ≤ _; omega) | (show (_ : Int) < _; omega) | (show (_ : Int) ≠ _; omega) | (with_reducible apply And.intro) | (intro _) | (assumption))
  · exact absurd e2 (by assumption)
  · exact absurd e1 (by assumption)
theorem good_law (a b d c k r : Int) (w : World) (ha : 0 ≤ a ∧ a ≤ 255) (hb : 0 ≤ b ∧ b ≤ 255) (hd : 0 ≤ d ∧ d ≤ 255) (hc : c = 4 + a % 7) (hk : k = 1 + b % 4) (hr : r = 1 + d) :
    Ret Try.prog 9 #[.int .u8 a, .int .u8 b, .int .u8 d] w (.agg #[.int .i64 c, .int .i64 k, .int .i64 r]) := by
  refine ret_of (revetmentlaw07_good_calls ?_)
  unfold revetmentlaw07_good
  have hS := S.start w
  have e1 : IntKind.i64.wrap (4 + Int.tmod (IntKind.i64.wrap a) 7) = c := by rw [wrap64 a (by omega) (by omega), tmod_nn ha.1, wrap64 _ (by omega) (by omega), hc]
  have e2 : IntKind.i64.wrap (1 + Int.tmod (IntKind.i64.wrap b) 4) = k := by rw [wrap64 b (by omega) (by omega), tmod_nn hb.1, wrap64 _ (by omega) (by omega), hk]
  have e3 : IntKind.i64.wrap (1 + IntKind.i64.wrap d) = r := by rw [wrap64 d (by omega) (by omega), wrap64 _ (by omega) (by omega), hr]
  rw [e1, e2, e3]
  repeat' (first | (refine Alloc.s (by assumption) ?_; intro _ _ _) | (refine St.s (by assumption) (by first | exact Upd.head | exact Upd.tail (Upd.head) | exact Upd.tail (Upd.tail (Upd.head)) | exact Upd.tail (Upd.tail (Upd.tail (Upd.head))) | exact Upd.tail (Upd.tail (Upd.tail (Upd.tail (Upd.head)))) | exact Upd.tail (Upd.tail (Upd.tail (Upd.tail (Upd.tail (Upd.head))))) | exact Upd.tail (Upd.tail (Upd.tail (Upd.tail (Upd.tail (Upd.tail (Upd.head)))))) | exact Upd.tail (Upd.tail (Upd.tail (Upd.tail (Upd.tail (Upd.tail (Upd.tail (Upd.head))))))) | exact Upd.tail (Upd.tail (Upd.tail (Upd.tail (Upd.tail (Upd.tail (Upd.tail (Upd.tail (Upd.head)))))))) | exact Upd.tail (Upd.tail (Upd.tail (Upd.tail (Upd.tail (Upd.tail (Upd.tail (Upd.tail (Upd.tail (Upd.head))))))))) | exact Upd.tail (Upd.tail (Upd.tail (Upd.tail (Upd.tail (Upd.tail (Upd.tail (Upd.tail (Upd.tail (Upd.tail (Upd.head)))))))))) | exact Upd.tail (Upd.tail (Upd.tail (Upd.tail (Upd.tail (Upd.tail (Upd.tail (Upd.tail (Upd.tail (Upd.tail (Upd.tail (Upd.head)))))))))))) (by simp) (by rfl) rfl ?_; intro _ _) | (exact S.ld (by assumption) (by first | exact List.Mem.head _ | exact List.Mem.tail _ (List.Mem.head _) | exact List.Mem.tail _ (List.Mem.tail _ (List.Mem.head _)) | exact List.Mem.tail _ (List.Mem.tail _ (List.Mem.tail _ (List.Mem.head _))) | exact List.Mem.tail _ (List.Mem.tail _ (List.Mem.tail _ (List.Mem.tail _ (List.Mem.head _)))) | exact List.Mem.tail _ (List.Mem.tail _ (List.Mem.tail _ (List.Mem.tail _ (List.Mem.tail _ (List.Mem.head _))))) | exact List.Mem.tail _ (List.Mem.tail _ (List.Mem.tail _ (List.Mem.tail _ (List.Mem.tail _ (List.Mem.tail _ (List.Mem.head _)))))) | exact List.Mem.tail _ (List.Mem.tail _ (List.Mem.tail _ (List.Mem.tail _ (List.Mem.tail _ (List.Mem.tail _ (List.Mem.tail _ (List.Mem.head _))))))) | exact List.Mem.tail _ (List.Mem.tail _ (List.Mem.tail _ (List.Mem.tail _ (List.Mem.tail _ (List.Mem.tail _ (List.Mem.tail _ (List.Mem.tail _ (List.Mem.head _)))))))) | exact List.Mem.tail _ (List.Mem.tail _ (List.Mem.tail _ (List.Mem.tail _ (List.Mem.tail _ (List.Mem.tail _ (List.Mem.tail _ (List.Mem.tail _ (List.Mem.tail _ (List.Mem.head _))))))))) | exact List.Mem.tail _ (List.Mem.tail _ (List.Mem.tail _ (List.Mem.tail _ (List.Mem.tail _ (List.Mem.tail _ (List.Mem.tail _ (List.Mem.tail _ (List.Mem.tail _ (List.Mem.tail _ (List.Mem.head _)))))))))) | exact List.Mem.tail _ (List.Mem.tail _ (List.Mem.tail _ (List.Mem.tail _ (List.Mem.tail _ (List.Mem.tail _ (List.Mem.tail _ (List.Mem.tail _ (List.Mem.tail _ (List.Mem.tail _ (List.Mem.tail _ (List.Mem.head _)))))))))))) (by rfl)) | (refine lex_s (by assumption) ?_; intro _) | (refine Join.intro fun J hJ => ?_) | (refine hJ _ _ ?_) | (refine ⟨_, _, min_run _ _ _ _ _ _, ?_⟩) | (refine ⟨_, _, max_run _ _ _ _ _ _, ?_⟩) | (refine dec_t ?_; intro _) | (refine dec_f ?_; intro _) | (refine not_t ?_) | (refine not_f ?_) | (refine beq_t ?_; intro _) | (refine beq_f ?_; intro _) | (refine bne_t ?_; intro _) | (refine bne_f ?_; intro _) | (with_reducible apply Exists.intro) | (exact rfl) | (exact S.ext (by assumption)) | (show (_ : Int) ≤ _; omega) | (show (_ : Int) < _; omega) | (show (_ : Int) ≠ _; omega) | (with_reducible apply And.intro) | (intro _) | (assumption))
theorem ok_law {a b d c k r : Int} (ha : 0 ≤ a ∧ a ≤ 255) (hb : 0 ≤ b ∧ b ≤ 255) (hd : 0 ≤ d ∧ d ≤ 255) (hc : c = 4 + a % 7) (hk : k = 1 + b % 4) (hr : r = 1 + d) : OkG c k r := by unfold OkG; omega
theorem par_at {c k r x row : Int} (w : World) (h : x = row) : Ret Try.prog 10 #[.agg #[.int .i64 c, .int .i64 k, .int .i64 r], .int .i64 x] w (.tuple #[.int .i64 (parP c k r row), .int .i64 (parQ c k r row)]) := h ▸ parity_spec _ _ _ _ _
theorem col_at {c k r x row y i : Int} (w : World) (h : x = row) (h' : y = i) : Ret Try.prog 11 #[.agg #[.int .i64 c, .int .i64 k, .int .i64 r], .int .i64 x, .int .i64 y] w (.int .i64 (colG c k r row i)) := h ▸ h' ▸ column_spec _ _ _ _ _ _
theorem turns_spec (a b d i : Int) (w : World) (ha : 0 ≤ a ∧ a ≤ 255) (hb : 0 ≤ b ∧ b ≤ 255) (hd : 0 ≤ d ∧ d ≤ 255) (hi : 0 ≤ i ∧ i ≤ 255) :
    Ret Try.prog 3 #[.int .u8 a, .int .u8 b, .int .u8 d, .int .u8 i] w (.bool true) := by
  refine ret_of (revetmentlaw07_LayoutTurns_calls ?_)
  unfold revetmentlaw07_LayoutTurns
  have hS := S.start w
  obtain ⟨c, hc⟩ : ∃ c, c = 4 + a % 7 := ⟨_, rfl⟩
  obtain ⟨k, hk⟩ : ∃ k, k = 1 + b % 4 := ⟨_, rfl⟩
  have hg : OkG c k 256 := ok_law ha hb (d := 255) (by omega) hc hk rfl
  have hc' : 4 ≤ c ∧ c ≤ 10 := ⟨hg.1, hg.2.1⟩
  obtain ⟨row, hrow⟩ : ∃ row, row = d % (256 - c) := ⟨_, rfl⟩
  obtain ⟨n, hn⟩ : ∃ n, n = i % (c - 2) := ⟨_, rfl⟩
  have b1 := mod_bd d (c := 256 - c) (by omega)
  have b2 := mod_bd i (c := c - 2) (by omega)
  rw [← hrow] at b1
  rw [← hn] at b2
  have e0 : Int.tmod (IntKind.i64.wrap d) (IntKind.i64.wrap (256 - c)) = row := by rw [wrap64 d (by omega) (by omega), wrap64 _ (by omega) (by omega), tmod_nn hd.1, hrow]
  have e1 : IntKind.i64.wrap (Int.tmod (IntKind.i64.wrap d) (IntKind.i64.wrap (256 - c)) + c) = row + c := by rw [e0, wrap64 _ (by omega) (by omega)]
  have e2 : IntKind.i64.wrap (Int.tmod (IntKind.i64.wrap d) (IntKind.i64.wrap (256 - c)) + 1) = row + 1 := by rw [e0, wrap64 _ (by omega) (by omega)]
  have e3 : Int.tmod (IntKind.i64.wrap i) (IntKind.i64.wrap (c - 2)) = n := by rw [wrap64 i (by omega) (by omega), wrap64 _ (by omega) (by omega), tmod_nn hi.1, hn]
  have i0 : InG c k 256 row 0 1 := inG_of hg (by omega) (by omega)
  have i1 : InG c k 256 (row + c) 0 1 := inG_of hg (by omega) (by omega)
  have i2 : InG c k 256 (row + 1) 0 1 := inG_of hg (by omega) (by omega)
  have j0 : InG c k 256 row n (c - 2) := inG_of hg (by omega) (by omega)
  have j1 : InG c k 256 (row + c) n (c - 2) := inG_of hg (by omega) (by omega)
  have j2 : InG c k 256 (row + 1) n (c - 2) := inG_of hg (by omega) (by omega)
  have q0 := par_q i0; have q1 := par_q i1; have q2 := par_q i2
  have p0 := par_p i0; have p1 := par_p i1; have p2 := par_p i2
  have c0 := col_v j0; have c1 := col_v j1; have c2 := col_v j2
  have f1 := first_turn c row
  have f2 := first_next (c := c) (row := row) hc'.1
  have f0 := firstG_bd c row hc'
  rw [f1] at q1 p1 c1
  rw [f2] at q2 p2 c2
  have t1 : Int.tmod (IntKind.i64.wrap (parP c k 256 (row + 1) + 1)) c = parP c k 256 row := by
    rw [wrap64 _ (by split at p2 <;> omega) (by split at p2 <;> omega), tmod_nn (by split at p2 <;> omega), mod2 _ _ (by split at p2 <;> omega) (by split at p2 <;> omega)]
    split at p2 <;> split <;> split at p0 <;> (try split at p2) <;> omega
  have t2 : Int.tmod (IntKind.i64.wrap (parQ c k 256 (row + 1) + 1)) c = parQ c k 256 row := by
    rw [wrap64 _ (by split at q2 <;> omega) (by split at q2 <;> omega), tmod_nn (by split at q2 <;> omega), mod2 _ _ (by split at q2 <;> omega) (by split at q2 <;> omega)]
    split at q2 <;> split <;> omega
  have t3 : Int.tmod (IntKind.i64.wrap (colG c k 256 (row + 1) n + 1)) c = colG c k 256 row n := by
    have hb : 0 ≤ colG c k 256 (row + 1) n ∧ colG c k 256 (row + 1) n < c := by split at c2 <;> split at c2 <;> omega
    rw [wrap64 _ (by omega) (by omega), tmod_nn (by omega), mod2 _ _ (by omega) (by omega)]
    split at c2 <;> split at c2 <;> split <;> split at c0 <;> omega
  have w1 : IntKind.i64.wrap (256 - c) = 256 - c := wrap64 _ (by omega) (by omega)
  have w2 : IntKind.i64.wrap (c - 2) = c - 2 := wrap64 _ (by omega) (by omega)
  repeat' (first | (refine Alloc.s (by assumption) ?_; intro _ _ _) | (refine St.s (by assumption) (by first | exact Upd.head | exact Upd.tail (Upd.head) | exact Upd.tail (Upd.tail (Upd.head)) | exact Upd.tail (Upd.tail (Upd.tail (Upd.head))) | exact Upd.tail (Upd.tail (Upd.tail (Upd.tail (Upd.head)))) | exact Upd.tail (Upd.tail (Upd.tail (Upd.tail (Upd.tail (Upd.head))))) | exact Upd.tail (Upd.tail (Upd.tail (Upd.tail (Upd.tail (Upd.tail (Upd.head)))))) | exact Upd.tail (Upd.tail (Upd.tail (Upd.tail (Upd.tail (Upd.tail (Upd.tail (Upd.head))))))) | exact Upd.tail (Upd.tail (Upd.tail (Upd.tail (Upd.tail (Upd.tail (Upd.tail (Upd.tail (Upd.head)))))))) | exact Upd.tail (Upd.tail (Upd.tail (Upd.tail (Upd.tail (Upd.tail (Upd.tail (Upd.tail (Upd.tail (Upd.head))))))))) | exact Upd.tail (Upd.tail (Upd.tail (Upd.tail (Upd.tail (Upd.tail (Upd.tail (Upd.tail (Upd.tail (Upd.tail (Upd.head)))))))))) | exact Upd.tail (Upd.tail (Upd.tail (Upd.tail (Upd.tail (Upd.tail (Upd.tail (Upd.tail (Upd.tail (Upd.tail (Upd.tail (Upd.head)))))))))))) (by simp) (by rfl) rfl ?_; intro _ _) | (exact S.ld (by assumption) (by first | exact List.Mem.head _ | exact List.Mem.tail _ (List.Mem.head _) | exact List.Mem.tail _ (List.Mem.tail _ (List.Mem.head _)) | exact List.Mem.tail _ (List.Mem.tail _ (List.Mem.tail _ (List.Mem.head _))) | exact List.Mem.tail _ (List.Mem.tail _ (List.Mem.tail _ (List.Mem.tail _ (List.Mem.head _)))) | exact List.Mem.tail _ (List.Mem.tail _ (List.Mem.tail _ (List.Mem.tail _ (List.Mem.tail _ (List.Mem.head _))))) | exact List.Mem.tail _ (List.Mem.tail _ (List.Mem.tail _ (List.Mem.tail _ (List.Mem.tail _ (List.Mem.tail _ (List.Mem.head _)))))) | exact List.Mem.tail _ (List.Mem.tail _ (List.Mem.tail _ (List.Mem.tail _ (List.Mem.tail _ (List.Mem.tail _ (List.Mem.tail _ (List.Mem.head _))))))) | exact List.Mem.tail _ (List.Mem.tail _ (List.Mem.tail _ (List.Mem.tail _ (List.Mem.tail _ (List.Mem.tail _ (List.Mem.tail _ (List.Mem.tail _ (List.Mem.head _)))))))) | exact List.Mem.tail _ (List.Mem.tail _ (List.Mem.tail _ (List.Mem.tail _ (List.Mem.tail _ (List.Mem.tail _ (List.Mem.tail _ (List.Mem.tail _ (List.Mem.tail _ (List.Mem.head _))))))))) | exact List.Mem.tail _ (List.Mem.tail _ (List.Mem.tail _ (List.Mem.tail _ (List.Mem.tail _ (List.Mem.tail _ (List.Mem.tail _ (List.Mem.tail _ (List.Mem.tail _ (List.Mem.tail _ (List.Mem.head _)))))))))) | exact List.Mem.tail _ (List.Mem.tail _ (List.Mem.tail _ (List.Mem.tail _ (List.Mem.tail _ (List.Mem.tail _ (List.Mem.tail _ (List.Mem.tail _ (List.Mem.tail _ (List.Mem.tail _ (List.Mem.tail _ (List.Mem.head _)))))))))))) (by rfl)) | (refine lex_s (by assumption) ?_; intro _) | (refine Ret.useS (by assumption) (good_law _ _ _ _ _ 256 _ ha hb (by omega) hc hk rfl) ?_; intro _ _) | (refine Ret.useS (by assumption) (par_at _ (by first | exact e0 | exact e1 | exact e2)) ?_; intro _ _) | (refine Ret.useS (by assumption) (col_at _ (by first | exact e0 | exact e1 | exact e2) e3) ?_; intro _ _) | (refine Ret.useS (by assumption) (shown_spec _) ?_; intro _ _) | (refine Join.intro fun J hJ => ?_) | (refine hJ _ _ ?_) | (refine ⟨_, _, min_run _ _ _ _ _ _, ?_⟩) | (refine ⟨_, _, max_run _ _ _ _ _ _, ?_⟩) | (refine dec_t ?_; intro _) | (refine dec_f ?_; intro _) | (refine not_t ?_) | (refine not_f ?_) | (refine beq_t ?_; intro _) | (refine beq_f ?_; intro _) | (refine bne_t ?_; intro _) | (refine bne_f ?_; intro _) | (with_reducible apply Exists.intro) | (exact rfl) | (exact S.ext (by assumption)) | (show (_ : Int) ≤ _; omega) | (show (_ : Int) < _; omega) | (show (_ : Int) ≠ _; omega) | (with_reducible apply And.intro) | (intro _) | (assumption))
  all_goals omega
end Go.Proofs.Ytfnghfbggieagaa
