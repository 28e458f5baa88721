import Derived.Test.YtedbbdeeofdepaaGreatDoorM2
import Derived.Test.YtedbbdeeofdepaaGreatDoorM12
/-! The formulas of Go functions, printed by a program of this session (shprint.py), each tied to the loaded function by the kernel. -/
namespace Go.Proofs.YtedbbdeeofdepaaGreatDoor
open Go.Sh
set_option linter.unusedVariables false
set_option maxRecDepth 100000
/-- revetment/revetmentref05.Good -/
def revetmentref05_Good (p0 : Option Addr) (l0 c0 : Nat) (w : World) (R : Value → World → Prop) : Prop :=
  Calls Tryz.prog 45 #[.slice p0 l0 c0] w fun e w1 => ∃ s7_0 : ByteArray, ∃ s7_1 : ByteArray, e = .returned (.tuple #[.string s7_0, .string s7_1]) ∧
  ((decide ((l0 : Int) ≥ 2)) = true →
  Calls Tryz.prog 46 #[.string s7_0] w1 fun e_1 w2 => ∃ b15 : Bool, e_1 = .returned (.bool b15) ∧
  (b15 = true →
  Calls Tryz.prog 46 #[.string s7_1] w2 fun e_2 w3 => ∃ b19 : Bool, e_2 = .returned (.bool b19) ∧
  R (.bool b19) w3) ∧
  (b15 = false →
  R (.bool false) w2)) ∧
  ((decide ((l0 : Int) ≥ 2)) = false →
  R (.bool false) w1)
theorem revetmentref05_Good_eq (p0 : Option Addr) (l0 c0 : Nat) (w : World) (R : Value → World → Prop) : revetmentref05_Good p0 l0 c0 w R = fnP Tryz.prog Tryz.f19 .o [.slice p0 l0 c0] w R := by kernel_rfl
theorem revetmentref05_Good_calls {p0 : Option Addr} {l0 c0 : Nat} {w : World} {R : Value → World → Prop} (h : revetmentref05_Good p0 l0 c0 w R) : Calls Tryz.prog 19 #[.slice p0 l0 c0] w fun e w1 => ∃ v, e = .returned v ∧ R v w1 := fnP_calls callable Tryz.func19 (revetmentref05_Good_eq p0 l0 c0 w R ▸ h)

/-- revetment/revetmentref05.P -/
def revetmentref05_P (p0 : Option Addr) (l0 c0 : Nat) (w : World) (R : Value → World → Prop) : Prop :=
  LoopP (fun I => I [.string (ByteArray.mk #[]), .int .i64 0] w) fun K vs w1 => ∃ s3 : ByteArray, ∃ n4 : Int, vs = [.string s3, .int .i64 n4] ∧
  ((decide (n4 < (l0 : Int))) = true →
  ∃ a14 : Addr, p0 = some a14 ∧ (0 : Int) ≤ n4 ∧ n4 < (l0 : Int) ∧
  ∃ s15 : ByteArray, w1.cell? (Addr.add a14 (n4.toNat * 1)) = some (.string s15) ∧
  Calls Tryz.prog 58 #[.string s3, .string s15] w1 fun e w2 => ∃ s16 : ByteArray, e = .returned (.string s16) ∧
  K [.string s16, .int .i64 (IntKind.i64.wrap (n4 + 1))] w2) ∧
  ((decide (n4 < (l0 : Int))) = false →
  R (.string s3) w1)
theorem revetmentref05_P_eq (p0 : Option Addr) (l0 c0 : Nat) (w : World) (R : Value → World → Prop) : revetmentref05_P p0 l0 c0 w R = fnP Tryz.prog Tryz.f27 (.s .o (.s .o (.s (.s .o (.b (.l [(3, .one .str), (4, .one (.int .i64))] .o))) .o))) [.slice p0 l0 c0] w R := by kernel_rfl
theorem revetmentref05_P_calls {p0 : Option Addr} {l0 c0 : Nat} {w : World} {R : Value → World → Prop} (h : revetmentref05_P p0 l0 c0 w R) : Calls Tryz.prog 27 #[.slice p0 l0 c0] w fun e w1 => ∃ v, e = .returned v ∧ R v w1 := fnP_calls callable Tryz.func27 (revetmentref05_P_eq p0 l0 c0 w R ▸ h)

/-- revetment/revetmentref05.Q -/
def revetmentref05_Q (p0 : Option Addr) (l0 c0 : Nat) (w : World) (R : Value → World → Prop) : Prop :=
  LoopP (fun I => I [.string (ByteArray.mk #[]), .int .i64 0] w) fun K vs w1 => ∃ s3 : ByteArray, ∃ n4 : Int, vs = [.string s3, .int .i64 n4] ∧
  ((decide (n4 < (l0 : Int))) = true →
  ∃ D : World → Prop, D w1.drew ∧
  ∃ a14 : Addr, p0 = some a14 ∧ (0 : Int) ≤ n4 ∧ n4 < (l0 : Int) ∧
  ∃ s15 : ByteArray, (∀ w, D w → w.cell? (Addr.add a14 (n4.toNat * 1)) = some (.string s15)) ∧
  Calls Tryz.prog 60 #[.int .i64 n4] w1.drew fun e w2 => ∃ n17 : Int, e = .returned (.int .u8 n17) ∧
  D w2 ∧
  Calls Tryz.prog 59 #[.string s15, .int .u8 n17] w2 fun e_1 w3 => ∃ s18 : ByteArray, e_1 = .returned (.string s18) ∧
  D w3 ∧
  Calls Tryz.prog 58 #[.string s3, .string s18] w3 fun e_2 w4 => ∃ s19 : ByteArray, e_2 = .returned (.string s19) ∧
  D w4 ∧
  K [.string s19, .int .i64 (IntKind.i64.wrap (n4 + 1))] w4) ∧
  ((decide (n4 < (l0 : Int))) = false →
  R (.string s3) w1)
theorem revetmentref05_Q_eq (p0 : Option Addr) (l0 c0 : Nat) (w : World) (R : Value → World → Prop) : revetmentref05_Q p0 l0 c0 w R = fnP Tryz.prog Tryz.f28 (.s .o (.s .o (.s (.s .o (.b (.l [(3, .one .str), (4, .one (.int .i64))] .o))) .o))) [.slice p0 l0 c0] w R := by kernel_rfl
theorem revetmentref05_Q_calls {p0 : Option Addr} {l0 c0 : Nat} {w : World} {R : Value → World → Prop} (h : revetmentref05_Q p0 l0 c0 w R) : Calls Tryz.prog 28 #[.slice p0 l0 c0] w fun e w1 => ∃ v, e = .returned v ∧ R v w1 := fnP_calls callable Tryz.func28 (revetmentref05_Q_eq p0 l0 c0 w R ▸ h)

/-- revetment/revetmentref05.Sum -/
def revetmentref05_Sum (p0 : Option Addr) (l0 c0 : Nat) (w : World) (R : Value → World → Prop) : Prop :=
  ((decide ((IntKind.i64.wrap ((l0 : Int) - 2)) < 0)) = true →
  R (.tuple #[.string (ByteArray.mk #[]), .string (ByteArray.mk #[])]) w) ∧
  ((decide ((IntKind.i64.wrap ((l0 : Int) - 2)) < 0)) = false →
  ∃ D : World → Prop, D w.drew ∧
  ∃ (p12 : Option Addr) (l12 c12 : Nat), (∀ w, D w → (Instr.sliceAt 22 (.slice p0 l0 c0) none (some (.int .i64 (IntKind.i64.wrap ((l0 : Int) - 2)))) none).run Tryz.prog w = .ok (.slice p12 l12 c12) w) ∧
  Calls Tryz.prog 27 #[.slice p12 l12 c12] w.drew fun e w1 => ∃ s13 : ByteArray, e = .returned (.string s13) ∧
  D w1 ∧
  ∃ a16 : Addr, p0 = some a16 ∧ (0 : Int) ≤ IntKind.i64.wrap ((l0 : Int) - 2) ∧ (IntKind.i64.wrap ((l0 : Int) - 2)) < (l0 : Int) ∧
  ∃ s17 : ByteArray, (∀ w, D w → w.cell? (Addr.add a16 ((IntKind.i64.wrap ((l0 : Int) - 2)).toNat * 1)) = some (.string s17)) ∧
  Calls Tryz.prog 58 #[.string s13, .string s17] w1 fun e_1 w2 => ∃ s18 : ByteArray, e_1 = .returned (.string s18) ∧
  D w2 ∧
  ∃ (p21 : Option Addr) (l21 c21 : Nat), (∀ w, D w → (Instr.sliceAt 22 (.slice p0 l0 c0) none (some (.int .i64 (IntKind.i64.wrap ((l0 : Int) - 2)))) none).run Tryz.prog w = .ok (.slice p21 l21 c21) w) ∧
  Calls Tryz.prog 28 #[.slice p21 l21 c21] w2 fun e_2 w3 => ∃ s22 : ByteArray, e_2 = .returned (.string s22) ∧
  D w3 ∧
  ∃ a26 : Addr, p0 = some a26 ∧ (0 : Int) ≤ IntKind.i64.wrap ((IntKind.i64.wrap ((l0 : Int) - 2)) + 1) ∧ (IntKind.i64.wrap ((IntKind.i64.wrap ((l0 : Int) - 2)) + 1)) < (l0 : Int) ∧
  ∃ s27 : ByteArray, (∀ w, D w → w.cell? (Addr.add a26 ((IntKind.i64.wrap ((IntKind.i64.wrap ((l0 : Int) - 2)) + 1)).toNat * 1)) = some (.string s27)) ∧
  Calls Tryz.prog 58 #[.string s22, .string s27] w3 fun e_3 w4 => ∃ s28 : ByteArray, e_3 = .returned (.string s28) ∧
  D w4 ∧
  R (.tuple #[.string s18, .string s28]) w4)
theorem revetmentref05_Sum_eq (p0 : Option Addr) (l0 c0 : Nat) (w : World) (R : Value → World → Prop) : revetmentref05_Sum p0 l0 c0 w R = fnP Tryz.prog Tryz.f45 .o [.slice p0 l0 c0] w R := by kernel_rfl
theorem revetmentref05_Sum_calls {p0 : Option Addr} {l0 c0 : Nat} {w : World} {R : Value → World → Prop} (h : revetmentref05_Sum p0 l0 c0 w R) : Calls Tryz.prog 45 #[.slice p0 l0 c0] w fun e w1 => ∃ v, e = .returned v ∧ R v w1 := fnP_calls callable Tryz.func45 (revetmentref05_Sum_eq p0 l0 c0 w R ▸ h)

/-- revetment/revetmentref05.Zero -/
def revetmentref05_Zero (s0 : ByteArray) (w : World) (R : Value → World → Prop) : Prop :=
  LoopP (fun I => I [.int .i64 0] w) fun K vs w1 => ∃ n3 : Int, vs = [.int .i64 n3] ∧
  ((decide (n3 < (s0.size : Int))) = true →
  ∃ n12 : Int, ∃ w2, (Instr.index 9 (.string s0) (.int .i64 n3)).run Tryz.prog w1 = .ok (.int .u8 n12) w2 ∧
  ((n12 != 0) = true →
  R (.bool false) w2) ∧
  ((n12 != 0) = false →
  K [.int .i64 (IntKind.i64.wrap (n3 + 1))] w2)) ∧
  ((decide (n3 < (s0.size : Int))) = false →
  R (.bool true) w1)
theorem revetmentref05_Zero_eq (s0 : ByteArray) (w : World) (R : Value → World → Prop) : revetmentref05_Zero s0 w R = fnP Tryz.prog Tryz.f46 (.s .o (.s (.s .o (.b (.l [(3, .one (.int .i64))] .o))) .o)) [.string s0] w R := by kernel_rfl
theorem revetmentref05_Zero_calls {s0 : ByteArray} {w : World} {R : Value → World → Prop} (h : revetmentref05_Zero s0 w R) : Calls Tryz.prog 46 #[.string s0] w fun e w1 => ∃ v, e = .returned v ∧ R v w1 := fnP_calls callable Tryz.func46 (revetmentref05_Zero_eq s0 w R ▸ h)

/-- revetment/revetmentref01.Xor -/
def revetmentref01_Xor (s0 : ByteArray) (s1 : ByteArray) (w : World) (R : Value → World → Prop) : Prop :=
  Alloc #[] 5 w fun k8 w1 =>
  LoopP (fun I => I [.slice (some ⟨k8, 0, none⟩) 0 0, .int .i64 0] w1) fun K vs w2 => ∃ (p5 : Option Addr) (l5 c5 : Nat), ∃ n6 : Int, vs = [.slice p5 l5 c5, .int .i64 n6] ∧
  ∃ n14 : Int, ∃ w3, (builtin .max #[3, 3] 3 #[false, false] #[.int .i64 (s0.size : Int), .int .i64 (s1.size : Int)]).run Tryz.prog w2 = .ok (.value (.int .i64 n14)) w3 ∧
  ((decide (n6 < n14)) = true →
  Join (fun vs_1 w4 => ∃ n7 : Int, vs_1 = [.int .u8 n7] ∧
  Join (fun vs_2 w5 => ∃ n7_1 : Int, vs_2 = [.int .u8 n7_1] ∧
  Alloc #[.int .u8 n7_1] 5 w5 fun k36 w6 =>
  ∃ (p37 : Option Addr) (l37 c37 : Nat), ∃ w7, (builtin .append #[57, 57] 57 #[false, false] #[.slice p5 l5 c5, .slice (some ⟨k36, 0, none⟩) 1 1]).run Tryz.prog w6 = .ok (.value (.slice p37 l37 c37)) w7 ∧
  K [.slice p37 l37 c37, .int .i64 (IntKind.i64.wrap (n6 + 1))] w7) fun J_1 =>
  ((decide (n6 < (s1.size : Int))) = true →
  ∃ n32 : Int, ∃ w8, (Instr.index 9 (.string s1) (.int .i64 n6)).run Tryz.prog w4 = .ok (.int .u8 n32) w8 ∧
  J_1 [.int .u8 (bits2 .xor .u8 n7 n32)] w8) ∧
  ((decide (n6 < (s1.size : Int))) = false →
  J_1 [.int .u8 n7] w4)) fun J =>
  ((decide (n6 < (s0.size : Int))) = true →
  ∃ n24 : Int, ∃ w9, (Instr.index 9 (.string s0) (.int .i64 n6)).run Tryz.prog w3 = .ok (.int .u8 n24) w9 ∧
  J [.int .u8 n24] w9) ∧
  ((decide (n6 < (s0.size : Int))) = false →
  J [.int .u8 0] w3)) ∧
  ((decide (n6 < n14)) = false →
  ∃ s39 : ByteArray, ∃ w10, (convert 57 9 (.slice p5 l5 c5)).run Tryz.prog w3 = .ok (.string s39) w10 ∧
  R (.string s39) w10)
theorem revetmentref01_Xor_eq (s0 : ByteArray) (s1 : ByteArray) (w : World) (R : Value → World → Prop) : revetmentref01_Xor s0 s1 w R = fnP Tryz.prog Tryz.f58 (.s .o (.s .o (.s (.s .o (.b (.l [(5, .one .slice), (6, .one (.int .i64))] (.s .o (.s (.b (.s .o (.j [(7, .one (.int .u8))] .o (.j [(7, .one (.int .u8))] .o .o)))) .o))))) .o))) [.string s0, .string s1] w R := by kernel_rfl
theorem revetmentref01_Xor_calls {s0 : ByteArray} {s1 : ByteArray} {w : World} {R : Value → World → Prop} (h : revetmentref01_Xor s0 s1 w R) : Calls Tryz.prog 58 #[.string s0, .string s1] w fun e w1 => ∃ v, e = .returned v ∧ R v w1 := fnP_calls callable Tryz.func58 (revetmentref01_Xor_eq s0 s1 w R ▸ h)

/-- revetment/revetmentref01.Times -/
def revetmentref01_Times (s0 : ByteArray) (n1 : Int) (w : World) (R : Value → World → Prop) : Prop :=
  Alloc #[] 5 w fun k7 w1 =>
  LoopP (fun I => I [.slice (some ⟨k7, 0, none⟩) 0 0, .int .i64 0] w1) fun K vs w2 => ∃ (p5 : Option Addr) (l5 c5 : Nat), ∃ n6 : Int, vs = [.slice p5 l5 c5, .int .i64 n6] ∧
  ((decide (n6 < (s0.size : Int))) = true →
  ∃ n17 : Int, ∃ w3, (Instr.index 9 (.string s0) (.int .i64 n6)).run Tryz.prog w2 = .ok (.int .u8 n17) w3 ∧
  Calls Tryz.prog 96 #[.int .u8 n17, .int .u8 n1] w3 fun e w4 => ∃ n19 : Int, e = .returned (.int .u8 n19) ∧
  Alloc #[.int .u8 n19] 5 w4 fun k20 w5 =>
  ∃ (p21 : Option Addr) (l21 c21 : Nat), ∃ w6, (builtin .append #[57, 57] 57 #[false, false] #[.slice p5 l5 c5, .slice (some ⟨k20, 0, none⟩) 1 1]).run Tryz.prog w5 = .ok (.value (.slice p21 l21 c21)) w6 ∧
  K [.slice p21 l21 c21, .int .i64 (IntKind.i64.wrap (n6 + 1))] w6) ∧
  ((decide (n6 < (s0.size : Int))) = false →
  ∃ s23 : ByteArray, ∃ w7, (convert 57 9 (.slice p5 l5 c5)).run Tryz.prog w2 = .ok (.string s23) w7 ∧
  R (.string s23) w7)
theorem revetmentref01_Times_eq (s0 : ByteArray) (n1 : Int) (w : World) (R : Value → World → Prop) : revetmentref01_Times s0 n1 w R = fnP Tryz.prog Tryz.f59 (.s .o (.s .o (.s (.s .o (.b (.l [(5, .one .slice), (6, .one (.int .i64))] .o))) .o))) [.string s0, .int .u8 n1] w R := by kernel_rfl
theorem revetmentref01_Times_calls {s0 : ByteArray} {n1 : Int} {w : World} {R : Value → World → Prop} (h : revetmentref01_Times s0 n1 w R) : Calls Tryz.prog 59 #[.string s0, .int .u8 n1] w fun e w1 => ∃ v, e = .returned v ∧ R v w1 := fnP_calls callable Tryz.func59 (revetmentref01_Times_eq s0 n1 w R ▸ h)

/-- revetment/revetmentref01.Exp -/
def revetmentref01_Exp (n0 : Int) (w : World) (R : Value → World → Prop) : Prop :=
  Calls Tryz.prog 97 #[.int .u8 2, .int .i64 n0] w fun e w1 => ∃ n4 : Int, e = .returned (.int .u8 n4) ∧
  R (.int .u8 n4) w1
theorem revetmentref01_Exp_eq (n0 : Int) (w : World) (R : Value → World → Prop) : revetmentref01_Exp n0 w R = fnP Tryz.prog Tryz.f60 .o [.int .i64 n0] w R := by kernel_rfl
theorem revetmentref01_Exp_calls {n0 : Int} {w : World} {R : Value → World → Prop} (h : revetmentref01_Exp n0 w R) : Calls Tryz.prog 60 #[.int .i64 n0] w fun e w1 => ∃ v, e = .returned v ∧ R v w1 := fnP_calls callable Tryz.func60 (revetmentref01_Exp_eq n0 w R ▸ h)

/-- revetment/revetmentref01.Mul -/
def revetmentref01_Mul (n0 : Int) (n1 : Int) (w : World) (R : Value → World → Prop) : Prop :=
  LoopP (fun I => I [.int .i64 0, .int .i64 (IntKind.i64.wrap n0), .int .i64 0] w) fun K vs w1 => ∃ n5 : Int, ∃ n6 : Int, ∃ n7 : Int, vs = [.int .i64 n5, .int .i64 n6, .int .i64 n7] ∧
  ((decide (n7 < 8)) = true →
  Join (fun vs_1 w2 => ∃ n5_1 : Int, vs_1 = [.int .i64 n5_1] ∧
  ((decide ((IntKind.i64.wrap (n6 * 2 ^ 1)) ≥ 256)) = true →
  K [.int .i64 n5_1, .int .i64 (bits2 .xor .i64 (IntKind.i64.wrap (n6 * 2 ^ 1)) 285), .int .i64 (IntKind.i64.wrap (n7 + 1))] w2) ∧
  ((decide ((IntKind.i64.wrap (n6 * 2 ^ 1)) ≥ 256)) = false →
  K [.int .i64 n5_1, .int .i64 (IntKind.i64.wrap (n6 * 2 ^ 1)), .int .i64 (IntKind.i64.wrap (n7 + 1))] w2)) fun J =>
  (0 : Int) ≤ n7 ∧
  (((bits2 .and .i64 (Int.fdiv (IntKind.i64.wrap n1) (2 ^ (min n7.toNat 64))) 1) == 1) = true →
  J [.int .i64 (bits2 .xor .i64 n5 n6)] w1) ∧
  (((bits2 .and .i64 (Int.fdiv (IntKind.i64.wrap n1) (2 ^ (min n7.toNat 64))) 1) == 1) = false →
  J [.int .i64 n5] w1)) ∧
  ((decide (n7 < 8)) = false →
  R (.int .u8 (IntKind.u8.wrap n5)) w1)
theorem revetmentref01_Mul_eq (n0 : Int) (n1 : Int) (w : World) (R : Value → World → Prop) : revetmentref01_Mul n0 n1 w R = fnP Tryz.prog Tryz.f96 (.s .o (.s .o (.s .o (.s (.s .o (.b (.l [(5, .one (.int .i64)), (6, .one (.int .i64)), (7, .one (.int .i64))] (.s .o (.s (.b (.j [(5, .one (.int .i64))] .o .o)) .o))))) .o)))) [.int .u8 n0, .int .u8 n1] w R := by kernel_rfl
theorem revetmentref01_Mul_calls {n0 : Int} {n1 : Int} {w : World} {R : Value → World → Prop} (h : revetmentref01_Mul n0 n1 w R) : Calls Tryz.prog 96 #[.int .u8 n0, .int .u8 n1] w fun e w1 => ∃ v, e = .returned v ∧ R v w1 := fnP_calls callable Tryz.func96 (revetmentref01_Mul_eq n0 n1 w R ▸ h)

/-- revetment/revetmentref01.Pow -/
def revetmentref01_Pow (n0 : Int) (n1 : Int) (w : World) (R : Value → World → Prop) : Prop :=
  ((n1 == 0) = true →
  R (.int .u8 1) w) ∧
  ((n1 == 0) = false →
  ((n0 == 0) = true →
  R (.int .u8 0) w) ∧
  ((n0 == 0) = false →
  Join (fun vs w1 => ∃ n5 : Int, vs = [.int .i64 n5] ∧
  LoopP (fun I => I [.int .u8 1, .int .i64 0] w1) fun K vs_1 w2 => ∃ n6 : Int, ∃ n7 : Int, vs_1 = [.int .u8 n6, .int .i64 n7] ∧
  ((decide (n7 < n5)) = true →
  Calls Tryz.prog 96 #[.int .u8 n6, .int .u8 n0] w2 fun e w3 => ∃ n25 : Int, e = .returned (.int .u8 n25) ∧
  K [.int .u8 n25, .int .i64 (IntKind.i64.wrap (n7 + 1))] w3) ∧
  ((decide (n7 < n5)) = false →
  R (.int .u8 n6) w2)) fun J =>
  ((decide ((Int.tmod n1 255) < 0)) = true →
  J [.int .i64 (IntKind.i64.wrap ((Int.tmod n1 255) + 255))] w) ∧
  ((decide ((Int.tmod n1 255) < 0)) = false →
  J [.int .i64 (Int.tmod n1 255)] w)))
theorem revetmentref01_Pow_eq (n0 : Int) (n1 : Int) (w : World) (R : Value → World → Prop) : revetmentref01_Pow n0 n1 w R = fnP Tryz.prog Tryz.f97 (.s .o (.s .o (.s .o (.s .o (.j [(5, .one (.int .i64))] .o (.s .o (.s (.s .o (.b (.l [(6, .one (.int .u8)), (7, .one (.int .i64))] .o))) .o))))))) [.int .u8 n0, .int .i64 n1] w R := by kernel_rfl
theorem revetmentref01_Pow_calls {n0 : Int} {n1 : Int} {w : World} {R : Value → World → Prop} (h : revetmentref01_Pow n0 n1 w R) : Calls Tryz.prog 97 #[.int .u8 n0, .int .i64 n1] w fun e w1 => ∃ v, e = .returned v ∧ R v w1 := fnP_calls callable Tryz.func97 (revetmentref01_Pow_eq n0 n1 w R ▸ h)

end Go.Proofs.YtedbbdeeofdepaaGreatDoor
