import Derived.Test.YtdfkifgkccnaiaaGreatDoorRe2
import Derived.Laws.StructEq
namespace Go.Proofs.YtdfkifgkccnaiaaGreatDoor
open Go.Sh Go.RowKit
set_option maxRecDepth 20000
theorem pa0 (a b : Int) (w : World) : (part 3 #[.int .i64 a, .int .i64 b] 0).run Tryz.prog w = .ok (.int .i64 a) w := by kernel_rfl
theorem pa1 (a b : Int) (w : World) : (part 3 #[.int .i64 a, .int .i64 b] 1).run Tryz.prog w = .ok (.int .i64 b) w := by kernel_rfl
theorem und2 (w : World) : (underlying 67).run Tryz.prog w = .ok (.array 2 3) w := by kernel_rfl
theorem siz2 (w : World) : (sizeOf 3).run Tryz.prog w = .ok 1 w := by kernel_rfl
theorem eq_int2 (d : Nat) (w : World) (a b : Int) : (Op.equalIn (d + 1) 3 (.int .i64 a) (.int .i64 b)).run Tryz.prog w = .ok (a == b) w := run_equalIn_int w d 3 .i64 .i64 a b (by kernel_rfl)
theorem eqA (d : Nat) (a b c e : Int) (w : World) : (Op.equalIn (d + 2) 67 (.agg #[.int .i64 a, .int .i64 b]) (.agg #[.int .i64 c, .int .i64 e])).run Tryz.prog w = .ok ((a == c) && (b == e)) w := by
  unfold Op.equalIn
  simp only [Sem.run_bind, und2, siz2, Result.andThen_ok]
  simp [List.range', Sem.run_bind, pa0, pa1, eq_int2, Result.andThen_ok]
  cases h1 : a == c <;> cases h2 : b == e <;> simp_all
theorem eq22 (a b c d : Int) (x y : Operand) (w : World) : (do eqGuard .eql 67 x y (.agg #[.int .i64 a, .int .i64 b]) (.agg #[.int .i64 c, .int .i64 d]); binOp .eql 67 (.agg #[.int .i64 a, .int .i64 b]) (.agg #[.int .i64 c, .int .i64 d]) : Sem Value).run Tryz.prog w = .ok (.bool (decide (a = c ∧ b = d))) w := by
  rw [Sem.run_bind, run_eqGuard_agg _ _ _ _ _ _ _ (by kernel_rfl), Result.andThen_ok, run_eql_struct, eqA 9998 a b c d w, Result.andThen_ok]
  congr 2
  rw [Bool.eq_iff_iff]
  simp
end Go.Proofs.YtdfkifgkccnaiaaGreatDoor
