import Derived.Test.YtbecjmfcppginaaM2
import Derived.Test.YtbecjmfcppginaaM12
/-! The formulas of Go functions, printed by a program of this session (shprint.py), each tied to the loaded function by the kernel. -/
namespace Go.Proofs.Ytbecjmfcppginaa
open Go.Sh
set_option linter.unusedVariables false
set_option maxRecDepth 100000
/-- revetment/revetmentref12.Same -/
def revetmentref12_Same (n0_0 : Int) (n0_1 : Int) (p0_2 : Option Addr) (l0_2 c0_2 : Nat) (n1_0 : Int) (n1_1 : Int) (p1_2 : Option Addr) (l1_2 c1_2 : Nat) (w : World) (R : Value → World → Prop) : Prop :=
  Alloc #[.int .u64 n0_0, .int .i64 n0_1, .slice p0_2 l0_2 c0_2] 54 w fun k2 w1 =>
  Alloc #[.int .u64 n1_0, .int .i64 n1_1, .slice p1_2 l1_2 c1_2] 54 w1 fun k3 w2 =>
  ∃ n7 : Int, w2.cell? ⟨k2, 0, none⟩ = some (.int .u64 n7) ∧
  ∃ n9 : Int, w2.cell? ⟨k3, 0, none⟩ = some (.int .u64 n9) ∧
  ((n7 != n9) = true →
  R (.bool false) w2) ∧
  ((n7 != n9) = false →
  ∃ n13 : Int, w2.cell? ⟨k2, 1, none⟩ = some (.int .i64 n13) ∧
  ∃ n15 : Int, w2.cell? ⟨k3, 1, none⟩ = some (.int .i64 n15) ∧
  ((n13 != n15) = true →
  R (.bool false) w2) ∧
  ((n13 != n15) = false →
  ∃ (p20 : Option Addr) (l20 c20 : Nat), w2.cell? ⟨k2, 2, none⟩ = some (.slice p20 l20 c20) ∧
  ∃ (p23 : Option Addr) (l23 c23 : Nat), w2.cell? ⟨k3, 2, none⟩ = some (.slice p23 l23 c23) ∧
  (((l20 : Int) != (l23 : Int)) = true →
  R (.bool false) w2) ∧
  (((l20 : Int) != (l23 : Int)) = false →
  LoopP (fun I => I [.int .i64 0] w2) fun K vs w3 => ∃ n5 : Int, vs = [.int .i64 n5] ∧
  ∃ (p29 : Option Addr) (l29 c29 : Nat), w3.cell? ⟨k2, 2, none⟩ = some (.slice p29 l29 c29) ∧
  ((decide (n5 < (l29 : Int))) = true →
  ∃ D : World → Prop, D w3.drew ∧
  ∃ (p35 : Option Addr) (l35 c35 : Nat), (∀ w, D w → w.cell? ⟨k2, 2, none⟩ = some (.slice p35 l35 c35)) ∧
  ∃ a37 : Addr, p35 = some a37 ∧ (0 : Int) ≤ n5 ∧ n5 < (l35 : Int) ∧
  ∃ n38_0 : Int, ∃ n38_1 : Int, ∃ s38_2 : ByteArray, (∀ w, D w → w.cell? (Addr.add a37 (n5.toNat * 3)) = some (.int .i64 n38_0) ∧ w.cell? (Addr.add (Addr.add a37 (n5.toNat * 3)) 1) = some (.int .i64 n38_1) ∧ w.cell? (Addr.add (Addr.add a37 (n5.toNat * 3)) 2) = some (.string s38_2)) ∧
  ∃ (p40 : Option Addr) (l40 c40 : Nat), (∀ w, D w → w.cell? ⟨k3, 2, none⟩ = some (.slice p40 l40 c40)) ∧
  ∃ a42 : Addr, p40 = some a42 ∧ (0 : Int) ≤ n5 ∧ n5 < (l40 : Int) ∧
  ∃ n43_0 : Int, ∃ n43_1 : Int, ∃ s43_2 : ByteArray, (∀ w, D w → w.cell? (Addr.add a42 (n5.toNat * 3)) = some (.int .i64 n43_0) ∧ w.cell? (Addr.add (Addr.add a42 (n5.toNat * 3)) 1) = some (.int .i64 n43_1) ∧ w.cell? (Addr.add (Addr.add a42 (n5.toNat * 3)) 2) = some (.string s43_2)) ∧
  ∃ b44 : Bool, (∀ w, D w → (do eqGuard .neq 96 (.tmp 38) (.tmp 43) (.agg #[.int .i64 n38_0, .int .i64 n38_1, .string s38_2]) (.agg #[.int .i64 n43_0, .int .i64 n43_1, .string s43_2]); binOp .neq 96 (.agg #[.int .i64 n38_0, .int .i64 n38_1, .string s38_2]) (.agg #[.int .i64 n43_0, .int .i64 n43_1, .string s43_2]) : Sem Value).run Try.prog w = .ok (.bool b44) w) ∧
  (b44 = true →
  R (.bool false) w3.drew) ∧
  (b44 = false →
  K [.int .i64 (IntKind.i64.wrap (n5 + 1))] w3.drew)) ∧
  ((decide (n5 < (l29 : Int))) = false →
  R (.bool true) w3))))
theorem revetmentref12_Same_eq (n0_0 : Int) (n0_1 : Int) (p0_2 : Option Addr) (l0_2 c0_2 : Nat) (n1_0 : Int) (n1_1 : Int) (p1_2 : Option Addr) (l1_2 c1_2 : Nat) (w : World) (R : Value → World → Prop) : revetmentref12_Same n0_0 n0_1 p0_2 l0_2 c0_2 n1_0 n1_1 p1_2 l1_2 c1_2 w R = fnP Try.prog Try.f21 (.s .o (.s .o (.s (.s .o (.b (.l [(5, .one (.int .i64))] .o))) .o))) [.agg #[.int .u64 n0_0, .int .i64 n0_1, .slice p0_2 l0_2 c0_2], .agg #[.int .u64 n1_0, .int .i64 n1_1, .slice p1_2 l1_2 c1_2]] w R := by kernel_rfl
theorem revetmentref12_Same_calls {n0_0 : Int} {n0_1 : Int} {p0_2 : Option Addr} {l0_2 c0_2 : Nat} {n1_0 : Int} {n1_1 : Int} {p1_2 : Option Addr} {l1_2 c1_2 : Nat} {w : World} {R : Value → World → Prop} (h : revetmentref12_Same n0_0 n0_1 p0_2 l0_2 c0_2 n1_0 n1_1 p1_2 l1_2 c1_2 w R) : Calls Try.prog 21 #[.agg #[.int .u64 n0_0, .int .i64 n0_1, .slice p0_2 l0_2 c0_2], .agg #[.int .u64 n1_0, .int .i64 n1_1, .slice p1_2 l1_2 c1_2]] w fun e w1 => ∃ v, e = .returned v ∧ R v w1 := fnP_calls callable Try.func21 (revetmentref12_Same_eq n0_0 n0_1 p0_2 l0_2 c0_2 n1_0 n1_1 p1_2 l1_2 c1_2 w R ▸ h)

end Go.Proofs.Ytbecjmfcppginaa
