import Derived.Test.YtfnghfbggieagaaLaw3
/-! layout: the laws, on: apart. -/
namespace Go.Proofs.Ytfnghfbggieagaa
open Go.Sh
set_option linter.unusedVariables false
set_option maxHeartbeats 4000000
theorem col_eq {c k r row i C : Int} (w : World) (h : colG c k r row i = C) : Ret Try.prog 11 #[.agg #[.int .i64 c, .int .i64 k, .int .i64 r], .int .i64 row, .int .i64 i] w (.int .i64 C) := h ▸ column_spec _ _ _ _ _ _
theorem sec_eq {c k r row o T : Int} (w : World) (h : sectorG c k r row o = T) : Ret Try.prog 15 #[.agg #[.int .i64 c, .int .i64 k, .int .i64 r], .int .i64 row, .int .i64 o] w (.int .i64 T) := h ▸ sector_spec _ _ _ _ _ _
theorem apart_law (a b d u v : Int) (w : World) (ha : 0 ≤ a ∧ a ≤ 255) (hb : 0 ≤ b ∧ b ≤ 255) (hd : 0 ≤ d ∧ d ≤ 255) (hu : 0 ≤ u ∧ u ≤ 65535) (hv : 0 ≤ v ∧ v ≤ 65535) :
    Ret Try.prog 7 #[.int .u8 a, .int .u8 b, .int .u8 d, .int .u16 u, .int .u16 v] w (.bool true) := by
  refine ret_of (revetmentlaw07_LayoutApart_calls ?_)
  unfold revetmentlaw07_LayoutApart
  have hS := S.start w
  obtain ⟨c, hc⟩ : ∃ c, c = 4 + a % 7 := ⟨_, rfl⟩
  obtain ⟨k, hk⟩ : ∃ k, k = 1 + b % 4 := ⟨_, rfl⟩
  obtain ⟨r, hr⟩ : ∃ r, r = 1 + d := ⟨_, rfl⟩
  have hg : OkG c k r := ok_law ha hb hd hc hk hr
  have hc' : 4 ≤ c ∧ c ≤ 10 ∧ 1 ≤ k ∧ k ≤ 4 ∧ 1 ≤ r ∧ r ≤ 256 := hg
  have hn2 := size_bd hg
  rw [← sizeG_eq hg] at hn2
  obtain ⟨n, hn⟩ : ∃ n, sizeG c k r = n := ⟨_, rfl⟩
  rw [hn] at hn2
  obtain ⟨x, hx⟩ : ∃ s, s = u % n := ⟨_, rfl⟩
  obtain ⟨y, hy⟩ : ∃ s, s = v % n := ⟨_, rfl⟩
  have b1 := mod_bd u (c := n) (by omega)
  have b2 := mod_bd v (c := n) (by omega)
  rw [← hx] at b1
  rw [← hy] at b2
  have e0 : Int.tmod (IntKind.i64.wrap u) n = x := by rw [wrap64 u (by omega) (by omega), tmod_nn hu.1, hx]
  have e1 : Int.tmod (IntKind.i64.wrap v) n = y := by rw [wrap64 v (by omega) (by omega), tmod_nn hv.1, hy]
  rw [← hn] at b1 b2
  obtain ⟨f1, f2, f3, f4, f5, f6, f7, f8⟩ := find_in hg b1.1 (by omega)
  obtain ⟨g1, g2, g3, g4, g5, g6, g7, g8⟩ := find_in hg b2.1 (by omega)
  have j1 := col_v (inG_of hg ⟨f2, f3⟩ ⟨f4, f5⟩)
  have j2 := col_v (inG_of hg ⟨g2, g3⟩ ⟨g4, g5⟩)
  have q1 := par_q (inG_of hg ⟨f2, f3⟩ (n := 0) (most := 1) (by omega))
  have p1 := par_p (inG_of hg ⟨f2, f3⟩ (n := 0) (most := 1) (by omega))
  have s1 := sectorG_eq (inG_of hg ⟨f2, f3⟩ ⟨f6, f7⟩)
  have s2 := sectorG_eq (inG_of hg ⟨g2, g3⟩ ⟨g6, g7⟩)
  have fb := firstG_bd c (x / k / (c - 2)) (by omega)
  have key : colG c k r (x / k / (c - 2)) (x / k % (c - 2)) = colG c k r (y / k / (c - 2)) (y / k % (c - 2)) → sectorG c k r (x / k / (c - 2)) (x % k) = sectorG c k r (y / k / (c - 2)) (y % k) → x = y := by
    intro h1 h2
    rw [s1, s2] at h2
    have h3 : x % k + k * (x / k / (c - 2)) = y % k + k * (y / k / (c - 2)) := by omega
    have h4 := congrArg (· % k) h3
    have h5 := congrArg (· / k) h3
    simp only [Int.add_mul_emod_self_left, Int.emod_emod] at h4
    simp only [Int.add_mul_ediv_left _ _ (show k ≠ 0 by omega), Int.ediv_eq_zero_of_lt f6 f7, Int.ediv_eq_zero_of_lt g6 g7, Int.zero_add] at h5
    rw [j1, j2, h5] at h1
    have h6 : x / k % (c - 2) = y / k % (c - 2) := by split at h1 <;> split at h1 <;> omega
    rw [← f8, ← g8, h4, h5, h6]
  have same : x = y → colG c k r (x / k / (c - 2)) (x / k % (c - 2)) = colG c k r (y / k / (c - 2)) (y / k % (c - 2)) ∧ sectorG c k r (x / k / (c - 2)) (x % k) = sectorG c k r (y / k / (c - 2)) (y % k) := by rintro rfl; exact ⟨rfl, rfl⟩
  clear s1 s2 j2 f8 g8
  generalize x / k / (c - 2) = row at *
  generalize x / k % (c - 2) = i at *
  generalize x % k = o at *
  generalize y / k / (c - 2) = row' at *
  generalize y / k % (c - 2) = i' at *
  generalize y % k = o' at *
  have t1 : colG c k r row i ≠ parP c k r row := by rw [p1, j1]; split <;> split <;> omega
  have t2 : colG c k r row i ≠ parQ c k r row := by rw [q1, j1]; split <;> omega
  generalize hC : colG c k r row i = C at *
  generalize hC' : colG c k r row' i' = C' at *
  generalize hT : sectorG c k r row o = T at *
  generalize hT' : sectorG c k r row' o' = T' at *
  have hxy : Int.tmod (IntKind.i64.wrap u) n = Int.tmod (IntKind.i64.wrap v) n ↔ x = y := by rw [e0, e1]
  have k1 : C = C' → (T == T') = (Int.tmod (IntKind.i64.wrap u) n == Int.tmod (IntKind.i64.wrap v) n) := by
    intro h
    rw [Bool.eq_iff_iff, beq_iff_eq, beq_iff_eq]
    exact ⟨fun h2 => hxy.2 (key h h2), fun h2 => (same (hxy.1 h2)).2⟩
  have k2 : C ≠ C' → false = (Int.tmod (IntKind.i64.wrap u) n == Int.tmod (IntKind.i64.wrap v) n) := by
    intro h
    have : ¬ Int.tmod (IntKind.i64.wrap u) n = Int.tmod (IntKind.i64.wrap v) n := fun e => h (same (hxy.1 e)).1
    rw [beq_false_of_ne this]
  repeat' (first | (refine Alloc.s (by assumption) ?_; intro _ _ _) | (refine St.s (by assumption) (by first | exact Upd.head | exact Upd.tail (Upd.head) | exact Upd.tail (Upd.tail (Upd.head)) | exact Upd.tail (Upd.tail (Upd.tail (Upd.head))) | exact Upd.tail (Upd.tail (Upd.tail (Upd.tail (Upd.head)))) | exact Upd.tail (Upd.tail (Upd.tail (Upd.tail (Upd.tail (Upd.head))))) | exact Upd.tail (Upd.tail (Upd.tail (Upd.tail (Upd.tail (Upd.tail (Upd.head)))))) | exact Upd.tail (Upd.tail (Upd.tail (Upd.tail (Upd.tail (Upd.tail (Upd.tail (Upd.head))))))) | exact Upd.tail (Upd.tail (Upd.tail (Upd.tail (Upd.tail (Upd.tail (Upd.tail (Upd.tail (Upd.head)))))))) | exact Upd.tail (Upd.tail (Upd.tail (Upd.tail (Upd.tail (Upd.tail (Upd.tail (Upd.tail (Upd.tail (Upd.head))))))))) | exact Upd.tail (Upd.tail (Upd.tail (Upd.tail (Upd.tail (Upd.tail (Upd.tail (Upd.tail (Upd.tail (Upd.tail (Upd.head)))))))))) | exact Upd.tail (Upd.tail (Upd.tail (Upd.tail (Upd.tail (Upd.tail (Upd.tail (Upd.tail (Upd.tail (Upd.tail (Upd.tail (Upd.head)))))))))))) (by simp) (by rfl) rfl ?_; intro _ _) | (exact S.ld (by assumption) (by first | exact List.Mem.head _ | exact List.Mem.tail _ (List.Mem.head _) | exact List.Mem.tail _ (List.Mem.tail _ (List.Mem.head _)) | exact List.Mem.tail _ (List.Mem.tail _ (List.Mem.tail _ (List.Mem.head _))) | exact List.Mem.tail _ (List.Mem.tail _ (List.Mem.tail _ (List.Mem.tail _ (List.Mem.head _)))) | exact List.Mem.tail _ (List.Mem.tail _ (List.Mem.tail _ (List.Mem.tail _ (List.Mem.tail _ (List.Mem.head _))))) | exact List.Mem.tail _ (List.Mem.tail _ (List.Mem.tail _ (List.Mem.tail _ (List.Mem.tail _ (List.Mem.tail _ (List.Mem.head _)))))) | exact List.Mem.tail _ (List.Mem.tail _ (List.Mem.tail _ (List.Mem.tail _ (List.Mem.tail _ (List.Mem.tail _ (List.Mem.tail _ (List.Mem.head _))))))) | exact List.Mem.tail _ (List.Mem.tail _ (List.Mem.tail _ (List.Mem.tail _ (List.Mem.tail _ (List.Mem.tail _ (List.Mem.tail _ (List.Mem.tail _ (List.Mem.head _)))))))) | exact List.Mem.tail _ (List.Mem.tail _ (List.Mem.tail _ (List.Mem.tail _ (List.Mem.tail _ (List.Mem.tail _ (List.Mem.tail _ (List.Mem.tail _ (List.Mem.tail _ (List.Mem.head _))))))))) | exact List.Mem.tail _ (List.Mem.tail _ (List.Mem.tail _ (List.Mem.tail _ (List.Mem.tail _ (List.Mem.tail _ (List.Mem.tail _ (List.Mem.tail _ (List.Mem.tail _ (List.Mem.tail _ (List.Mem.head _)))))))))) | exact List.Mem.tail _ (List.Mem.tail _ (List.Mem.tail _ (List.Mem.tail _ (List.Mem.tail _ (List.Mem.tail _ (List.Mem.tail _ (List.Mem.tail _ (List.Mem.tail _ (List.Mem.tail _ (List.Mem.tail _ (List.Mem.head _)))))))))))) (by rfl)) | (refine lex_s (by assumption) ?_; intro _) | (refine Ret.useS (by assumption) (good_law _ _ _ _ _ _ _ ha hb hd hc hk hr) ?_; intro _ _) | (refine Ret.useS (by assumption) (size_at _ hn) ?_; intro _ _) | (refine Ret.useS (by assumption) (shown_spec _) ?_; intro _ _) | (refine Ret.useS (by assumption) (find_at _ (by with_reducible first | exact e0 | exact e1) (by with_reducible first | exact f1 | exact g1)) ?_; intro _ _) | (refine Ret.useS (by assumption) (col_eq _ (by with_reducible first | exact hC | exact hC')) ?_; intro _ _) | (refine Ret.useS (by assumption) (sec_eq _ (by with_reducible first | exact hT | exact hT')) ?_; intro _ _) | (refine Ret.useS (by assumption) (parity_spec _ _ _ _ _) ?_; intro _ _) | (refine Join.intro fun J hJ => ?_) | (refine hJ _ _ ?_) | (refine ⟨_, _, min_run _ _ _ _ _ _, ?_⟩) | (refine ⟨_, _, max_run _ _ _ _ _ _, ?_⟩) | (refine dec_t ?_; intro _) | (refine dec_f ?_; intro _) | (refine not_t ?_) | (refine not_f ?_) | (refine beq_t ?_; intro _) | (refine beq_f ?_; intro _) | (refine bne_t ?_; intro _) | (refine bne_f ?_; intro _) | (with_reducible apply Exists.intro) | (exact rfl) | (exact S.ext (by assumption)) | (show (_ : Int) ≤ _; omega) | (show (_ : Int) < _; omega) | (show (_ : Int) ≠ _; omega) | (with_reducible apply And.intro) | (intro _) | (assumption))
  all_goals first | contradiction | omega | (exact absurd (k1 (by assumption)) (by assumption)) | (exact absurd (k2 (by assumption)) (by assumption)) | (refine retBool ?_; rw [bne_iff_ne]; exact t2)
end Go.Proofs.Ytfnghfbggieagaa
