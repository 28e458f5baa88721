import Derived.Test.YtdppllkjibfjcaaPk4
import Derived.Laws.StructEq
/-! super: superblocks as values; when two are the same. -/
namespace Go.Proofs.Ytdppllkjibfjcaa
open Go.Sh Go.RowKit
set_option linter.unusedVariables false
set_option maxRecDepth 20000
set_option maxHeartbeats 1000000
structure SupV where
  uuid : Int
  events : Int
  role : Int
  cols : Int
  chunk : Int
  rows : Int
  clean : Bool
  built : Int
  new : Int
  grown : Int
deriving DecidableEq
def supC (a : SupV) : Array Value := #[.int .u64 a.uuid, .int .u64 a.events, .int .i64 a.role, .int .i64 a.cols, .int .i64 a.chunk, .int .i64 a.rows, .bool a.clean, .int .i64 a.built, .int .i64 a.new, .int .i64 a.grown]
abbrev sup0 : SupV := ⟨0, 0, 0, 0, 0, 0, false, 0, 0, 0⟩
theorem geoFields : (Try.prog.fieldsOf 56).toList = [Field.mk "Cols" 3 0 false "" "" 0, Field.mk "Chunk" 3 1 false "" "" 8, Field.mk "Rows" 3 2 false "" "" 16] := by kernel_rfl
theorem supFields : (Try.prog.fieldsOf 58).toList = [Field.mk "UUID" 53 0 false "" "" 0, Field.mk "Events" 53 1 false "" "" 8, Field.mk "Role" 3 2 false "" "" 16, Field.mk "Geo" 56 3 false "" "" 24,
  Field.mk "Clean" 4 6 false "" "" 48, Field.mk "Built" 3 7 false "" "" 56, Field.mk "New" 3 8 false "" "" 64, Field.mk "Grown" 3 9 false "" "" 72] := by kernel_rfl
theorem pt0 (a : SupV) (w : World) : (part 53 (supC a) 0).run Try.prog w = .ok (.int .u64 a.uuid) w := by kernel_rfl
theorem pt1 (a : SupV) (w : World) : (part 53 (supC a) 1).run Try.prog w = .ok (.int .u64 a.events) w := by kernel_rfl
theorem pt2 (a : SupV) (w : World) : (part 3 (supC a) 2).run Try.prog w = .ok (.int .i64 a.role) w := by kernel_rfl
theorem pt3 (a : SupV) (w : World) : (part 56 (supC a) 3).run Try.prog w = .ok (.agg #[.int .i64 a.cols, .int .i64 a.chunk, .int .i64 a.rows]) w := by kernel_rfl
theorem pt6 (a : SupV) (w : World) : (part 4 (supC a) 6).run Try.prog w = .ok (.bool a.clean) w := by kernel_rfl
theorem pt7 (a : SupV) (w : World) : (part 3 (supC a) 7).run Try.prog w = .ok (.int .i64 a.built) w := by kernel_rfl
theorem pt8 (a : SupV) (w : World) : (part 3 (supC a) 8).run Try.prog w = .ok (.int .i64 a.new) w := by kernel_rfl
theorem pt9 (a : SupV) (w : World) : (part 3 (supC a) 9).run Try.prog w = .ok (.int .i64 a.grown) w := by kernel_rfl
theorem pg0 (a b c : Int) (w : World) : (part 3 #[.int .i64 a, .int .i64 b, .int .i64 c] 0).run Try.prog w = .ok (.int .i64 a) w := by kernel_rfl
theorem pg1 (a b c : Int) (w : World) : (part 3 #[.int .i64 a, .int .i64 b, .int .i64 c] 1).run Try.prog w = .ok (.int .i64 b) w := by kernel_rfl
theorem pg2 (a b c : Int) (w : World) : (part 3 #[.int .i64 a, .int .i64 b, .int .i64 c] 2).run Try.prog w = .ok (.int .i64 c) w := by kernel_rfl
theorem eq_u64 (d : Nat) (w : World) (a b : Int) : (Op.equalIn (d + 1) 53 (.int .u64 a) (.int .u64 b)).run Try.prog w = .ok (a == b) w := run_equalIn_int w d 53 .u64 .u64 a b (by kernel_rfl)
theorem eq_int (d : Nat) (w : World) (a b : Int) : (Op.equalIn (d + 1) 3 (.int .i64 a) (.int .i64 b)).run Try.prog w = .ok (a == b) w := run_equalIn_int w d 3 .i64 .i64 a b (by kernel_rfl)
theorem eq_bool (d : Nat) (w : World) (a b : Bool) : (Op.equalIn (d + 1) 4 (.bool a) (.bool b)).run Try.prog w = .ok (a == b) w := run_equalIn_bool' w d 4 a b (by kernel_rfl)
theorem eqStep {P : Program} {w : World} {d : Nat} {xs ys : Array Value} {fs : List Field} {a b : Value} {r : Bool} (nm : String) (ty : TypeId) (o : Nat) (e : Bool) (s1 s2 : String) (by_ : Nat) (hf : nm ≠ "_") (ha : (part ty xs o).run P w = .ok a w) (hb : (part ty ys o).run P w = .ok b w) (he : (Op.equalIn d ty a b).run P w = .ok r w)
    {q : Bool} (hr : (Op.eqFields d xs ys fs).run P w = .ok q w) : (Op.eqFields d xs ys (Field.mk nm ty o e s1 s2 by_ :: fs)).run P w = .ok (r && q) w := by
  simp only [Op.eqFields, if_pos hf, Sem.run_bind, ha, hb, he, Result.andThen_ok]
  cases r
  · simp
  · simp [hr]
theorem eqNil {P : Program} {w : World} {d : Nat} {xs ys : Array Value} : (Op.eqFields d xs ys []).run P w = .ok true w := by simp [Op.eqFields]
theorem eq_geo (d : Nat) (w : World) (a b c a' b' c' : Int) : (Op.equalIn (d + 2) 56 (.agg #[.int .i64 a, .int .i64 b, .int .i64 c]) (.agg #[.int .i64 a', .int .i64 b', .int .i64 c'])).run Try.prog w = .ok ((a == a') && ((b == b') && ((c == c') && true))) w := by
  rw [run_equalIn_agg w (d + 1) 56 _ _ (by kernel_rfl) (by kernel_rfl), geoFields]
  exact eqStep _ _ _ _ _ _ _ (by decide) (pg0 ..) (pg0 ..) (eq_int d ..) (eqStep _ _ _ _ _ _ _ (by decide) (pg1 ..) (pg1 ..) (eq_int d ..) (eqStep _ _ _ _ _ _ _ (by decide) (pg2 ..) (pg2 ..) (eq_int d ..) eqNil))
theorem equal_sup (d : Nat) (a b : SupV) (w : World) : (Op.equalIn (d + 3) 58 (.agg (supC a)) (.agg (supC b))).run Try.prog w = .ok (decide (a = b)) w := by
  rw [run_equalIn_agg w (d + 2) 58 _ _ (by kernel_rfl) (by kernel_rfl), supFields]
  have h8 : (Op.eqFields (d + 2) (supC a) (supC b) []).run Try.prog w = .ok true w := eqNil
  have h7 := eqStep "Grown" 3 9 false "" "" 72 (by decide) (pt9 a w) (pt9 b w) (eq_int (d + 1) _ _ _) h8
  have h6 := eqStep "New" 3 8 false "" "" 64 (by decide) (pt8 a w) (pt8 b w) (eq_int (d + 1) _ _ _) h7
  have h5 := eqStep "Built" 3 7 false "" "" 56 (by decide) (pt7 a w) (pt7 b w) (eq_int (d + 1) _ _ _) h6
  have h4 := eqStep "Clean" 4 6 false "" "" 48 (by decide) (pt6 a w) (pt6 b w) (eq_bool (d + 1) _ _ _) h5
  have h3 := eqStep "Geo" 56 3 false "" "" 24 (by decide) (pt3 a w) (pt3 b w) (eq_geo d _ _ _ _ _ _ _) h4
  have h2 := eqStep "Role" 3 2 false "" "" 16 (by decide) (pt2 a w) (pt2 b w) (eq_int (d + 1) _ _ _) h3
  have h1 := eqStep "Events" 53 1 false "" "" 8 (by decide) (pt1 a w) (pt1 b w) (eq_u64 (d + 1) _ _ _) h2
  have h0 := eqStep "UUID" 53 0 false "" "" 0 (by decide) (pt0 a w) (pt0 b w) (eq_u64 (d + 1) _ _ _) h1
  refine h0.trans ?_
  congr 1
  obtain ⟨a0, a1, a2, a3, a4, a5, a6, a7, a8, a9⟩ := a
  obtain ⟨b0, b1, b2, b3, b4, b5, b6, b7, b8, b9⟩ := b
  simp only [SupV.mk.injEq]
  rw [Bool.eq_iff_iff]
  simp only [Bool.and_eq_true, beq_iff_eq, decide_eq_true_eq, Bool.and_true]
  constructor
  · rintro ⟨h0, h1, h2, ⟨h3, h4, h5⟩, h6, h7, h8, h9⟩
    exact ⟨h0, h1, h2, h3, h4, h5, h6, h7, h8, h9⟩
  · rintro ⟨h0, h1, h2, h3, h4, h5, h6, h7, h8, h9⟩
    exact ⟨h0, h1, h2, ⟨h3, h4, h5⟩, h6, h7, h8, h9⟩
theorem eql_sup (a b : SupV) (x y : Operand) (w : World) : (do eqGuard .eql 58 x y (.agg (supC a)) (.agg (supC b)); binOp .eql 58 (.agg (supC a)) (.agg (supC b)) : Sem Value).run Try.prog w = .ok (.bool (decide (a = b))) w := by
  rw [Sem.run_bind, run_eqGuard_agg _ _ _ _ _ _ _ (by kernel_rfl), Result.andThen_ok, run_eql_struct, equal_sup 9997 a b w]
  rfl
theorem neq_sup (a b : SupV) (x y : Operand) (w : World) : (do eqGuard .neq 58 x y (.agg (supC a)) (.agg (supC b)); binOp .neq 58 (.agg (supC a)) (.agg (supC b)) : Sem Value).run Try.prog w = .ok (.bool (!decide (a = b))) w := by
  rw [Sem.run_bind, run_eqGuard_agg _ _ _ _ _ _ _ (by kernel_rfl), Result.andThen_ok, run_neq_struct, equal_sup 9997 a b w]
  rfl
end Go.Proofs.Ytdppllkjibfjcaa
