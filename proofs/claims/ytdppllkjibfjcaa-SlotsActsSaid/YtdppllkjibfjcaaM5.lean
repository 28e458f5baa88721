import Derived.Test.YtdppllkjibfjcaaM2
import Derived.Test.YtdppllkjibfjcaaM4
/-! The formulas of Go functions, printed by a program of this session (shprint.py), each tied to the loaded function by the kernel. -/
namespace Go.Proofs.Ytdppllkjibfjcaa
open Go.Sh
set_option linter.unusedVariables false
set_option maxRecDepth 100000
/-- revetment/revetmentref09.Save -/
def revetmentref09_Save (p0 : Option Addr) (n1_0 : Int) (n1_1 : Int) (n1_2 : Int) (n1_3 : Int) (n1_4 : Int) (n1_5 : Int) (b1_6 : Bool) (n1_7 : Int) (n1_8 : Int) (n1_9 : Int) (w : World) (R : Value → World → Prop) : Prop :=
  Alloc #[.int .u64 n1_0, .int .u64 n1_1, .int .i64 n1_2, .int .i64 n1_3, .int .i64 n1_4, .int .i64 n1_5, .bool b1_6, .int .i64 n1_7, .int .i64 n1_8, .int .i64 n1_9] 76 w fun k3 w1 =>
  ∃ n9_0 : Int, ∃ n9_1 : Int, ∃ n9_2 : Int, ∃ n9_3 : Int, ∃ n9_4 : Int, ∃ n9_5 : Int, ∃ b9_6 : Bool, ∃ n9_7 : Int, ∃ n9_8 : Int, ∃ n9_9 : Int, (w1.cell? ⟨k3, 0, none⟩ = some (.int .u64 n9_0) ∧ w1.cell? ⟨k3, 1, none⟩ = some (.int .u64 n9_1) ∧ w1.cell? ⟨k3, 2, none⟩ = some (.int .i64 n9_2) ∧ w1.cell? ⟨k3, 3, none⟩ = some (.int .i64 n9_3) ∧ w1.cell? ⟨k3, 4, none⟩ = some (.int .i64 n9_4) ∧ w1.cell? ⟨k3, 5, none⟩ = some (.int .i64 n9_5) ∧ w1.cell? ⟨k3, 6, none⟩ = some (.bool b9_6) ∧ w1.cell? ⟨k3, 7, none⟩ = some (.int .i64 n9_7) ∧ w1.cell? ⟨k3, 8, none⟩ = some (.int .i64 n9_8) ∧ w1.cell? ⟨k3, 9, none⟩ = some (.int .i64 n9_9)) ∧
  Calls Try.prog 67 #[.agg #[.int .u64 n9_0, .int .u64 n9_1, .int .i64 n9_2, .int .i64 n9_3, .int .i64 n9_4, .int .i64 n9_5, .bool b9_6, .int .i64 n9_7, .int .i64 n9_8, .int .i64 n9_9]] w1 fun e w2 => ∃ s10_0 : ByteArray, ∃ n10_1 : Int, e = .returned (.tuple #[.string s10_0, .int .i64 n10_1]) ∧
  ((n10_1 != 0) = true →
  R (.int .i64 1) w2) ∧
  ((n10_1 != 0) = false →
  ∃ n17 : Int, w2.cell? ⟨k3, 1, none⟩ = some (.int .u64 n17) ∧
  Calls Try.prog 26 #[.pointer p0, .int .i64 (IntKind.i64.wrap (Int.tmod n17 2)), .string s10_0] w2 fun e_1 w3 => ∃ n21 : Int, e_1 = .returned (.int .i64 n21) ∧
  ((n21 != 0) = true →
  R (.int .i64 n21) w3) ∧
  ((n21 != 0) = false →
  Calls Try.prog 27 #[.pointer p0] w3 fun e_2 w4 => ∃ n26 : Int, e_2 = .returned (.int .i64 n26) ∧
  R (.int .i64 n26) w4))
theorem revetmentref09_Save_eq (p0 : Option Addr) (n1_0 : Int) (n1_1 : Int) (n1_2 : Int) (n1_3 : Int) (n1_4 : Int) (n1_5 : Int) (b1_6 : Bool) (n1_7 : Int) (n1_8 : Int) (n1_9 : Int) (w : World) (R : Value → World → Prop) : revetmentref09_Save p0 n1_0 n1_1 n1_2 n1_3 n1_4 n1_5 b1_6 n1_7 n1_8 n1_9 w R = fnP Try.prog Try.f39 .o [.pointer p0, .agg #[.int .u64 n1_0, .int .u64 n1_1, .int .i64 n1_2, .int .i64 n1_3, .int .i64 n1_4, .int .i64 n1_5, .bool b1_6, .int .i64 n1_7, .int .i64 n1_8, .int .i64 n1_9]] w R := by kernel_rfl
theorem revetmentref09_Save_calls {p0 : Option Addr} {n1_0 : Int} {n1_1 : Int} {n1_2 : Int} {n1_3 : Int} {n1_4 : Int} {n1_5 : Int} {b1_6 : Bool} {n1_7 : Int} {n1_8 : Int} {n1_9 : Int} {w : World} {R : Value → World → Prop} (h : revetmentref09_Save p0 n1_0 n1_1 n1_2 n1_3 n1_4 n1_5 b1_6 n1_7 n1_8 n1_9 w R) : Calls Try.prog 39 #[.pointer p0, .agg #[.int .u64 n1_0, .int .u64 n1_1, .int .i64 n1_2, .int .i64 n1_3, .int .i64 n1_4, .int .i64 n1_5, .bool b1_6, .int .i64 n1_7, .int .i64 n1_8, .int .i64 n1_9]] w fun e w1 => ∃ v, e = .returned v ∧ R v w1 := fnP_calls callable Try.func39 (revetmentref09_Save_eq p0 n1_0 n1_1 n1_2 n1_3 n1_4 n1_5 b1_6 n1_7 n1_8 n1_9 w R ▸ h)

/-- revetment/revetmentref09.Next -/
def revetmentref09_Next (p0 : Option Addr) (n1_0 : Int) (n1_1 : Int) (n1_2 : Int) (n1_3 : Int) (n1_4 : Int) (n1_5 : Int) (b1_6 : Bool) (n1_7 : Int) (n1_8 : Int) (n1_9 : Int) (w : World) (R : Value → World → Prop) : Prop :=
  Alloc #[.int .u64 n1_0, .int .u64 n1_1, .int .i64 n1_2, .int .i64 n1_3, .int .i64 n1_4, .int .i64 n1_5, .bool b1_6, .int .i64 n1_7, .int .i64 n1_8, .int .i64 n1_9] 76 w fun k3 w1 =>
  Alloc #[.int .u64 0, .int .u64 0, .int .i64 0, .int .i64 0, .int .i64 0, .int .i64 0, .bool false, .int .i64 0, .int .i64 0, .int .i64 0] 76 w1 fun k4 w2 =>
  Calls Try.prog 68 #[.pointer p0] w2 fun e w3 => ∃ n12_0_0 : Int, ∃ n12_0_1 : Int, ∃ n12_0_2 : Int, ∃ n12_0_3 : Int, ∃ n12_0_4 : Int, ∃ n12_0_5 : Int, ∃ b12_0_6 : Bool, ∃ n12_0_7 : Int, ∃ n12_0_8 : Int, ∃ n12_0_9 : Int, ∃ n12_1 : Int, e = .returned (.tuple #[.agg #[.int .u64 n12_0_0, .int .u64 n12_0_1, .int .i64 n12_0_2, .int .i64 n12_0_3, .int .i64 n12_0_4, .int .i64 n12_0_5, .bool b12_0_6, .int .i64 n12_0_7, .int .i64 n12_0_8, .int .i64 n12_0_9], .int .i64 n12_1]) ∧
  Alloc #[.int .u64 0, .int .u64 0, .int .i64 0, .int .i64 0, .int .i64 0, .int .i64 0, .bool false, .int .i64 0, .int .i64 0, .int .i64 0] 76 w3 fun k6 w4 =>
  St ⟨k6, 0, none⟩ (.int .u64 n12_0_0) w4 fun w5 =>
  St ⟨k6, 1, none⟩ (.int .u64 n12_0_1) w5 fun w6 =>
  St ⟨k6, 2, none⟩ (.int .i64 n12_0_2) w6 fun w7 =>
  St ⟨k6, 3, none⟩ (.int .i64 n12_0_3) w7 fun w8 =>
  St ⟨k6, 4, none⟩ (.int .i64 n12_0_4) w8 fun w9 =>
  St ⟨k6, 5, none⟩ (.int .i64 n12_0_5) w9 fun w10 =>
  St ⟨k6, 6, none⟩ (.bool b12_0_6) w10 fun w11 =>
  St ⟨k6, 7, none⟩ (.int .i64 n12_0_7) w11 fun w12 =>
  St ⟨k6, 8, none⟩ (.int .i64 n12_0_8) w12 fun w13 =>
  St ⟨k6, 9, none⟩ (.int .i64 n12_0_9) w13 fun w14 =>
  ∃ n16 : Int, w14.cell? ⟨k3, 1, none⟩ = some (.int .u64 n16) ∧
  Join (fun vs w15 => ∃ n8 : Int, vs = [.int .u64 n8] ∧
  St ⟨k3, 1, none⟩ (.int .u64 (IntKind.u64.wrap (n8 + 1))) w15 fun w16 =>
  ∃ n25_0 : Int, ∃ n25_1 : Int, ∃ n25_2 : Int, ∃ n25_3 : Int, ∃ n25_4 : Int, ∃ n25_5 : Int, ∃ b25_6 : Bool, ∃ n25_7 : Int, ∃ n25_8 : Int, ∃ n25_9 : Int, (w16.cell? ⟨k3, 0, none⟩ = some (.int .u64 n25_0) ∧ w16.cell? ⟨k3, 1, none⟩ = some (.int .u64 n25_1) ∧ w16.cell? ⟨k3, 2, none⟩ = some (.int .i64 n25_2) ∧ w16.cell? ⟨k3, 3, none⟩ = some (.int .i64 n25_3) ∧ w16.cell? ⟨k3, 4, none⟩ = some (.int .i64 n25_4) ∧ w16.cell? ⟨k3, 5, none⟩ = some (.int .i64 n25_5) ∧ w16.cell? ⟨k3, 6, none⟩ = some (.bool b25_6) ∧ w16.cell? ⟨k3, 7, none⟩ = some (.int .i64 n25_7) ∧ w16.cell? ⟨k3, 8, none⟩ = some (.int .i64 n25_8) ∧ w16.cell? ⟨k3, 9, none⟩ = some (.int .i64 n25_9)) ∧
  Calls Try.prog 39 #[.pointer p0, .agg #[.int .u64 n25_0, .int .u64 n25_1, .int .i64 n25_2, .int .i64 n25_3, .int .i64 n25_4, .int .i64 n25_5, .bool b25_6, .int .i64 n25_7, .int .i64 n25_8, .int .i64 n25_9]] w16 fun e_1 w17 => ∃ n26 : Int, e_1 = .returned (.int .i64 n26) ∧
  ((n26 != 0) = true →
  St ⟨k4, 0, none⟩ (.int .u64 0) w17 fun w18 =>
  St ⟨k4, 1, none⟩ (.int .u64 0) w18 fun w19 =>
  St ⟨k4, 2, none⟩ (.int .i64 0) w19 fun w20 =>
  St ⟨k4, 3, none⟩ (.int .i64 0) w20 fun w21 =>
  St ⟨k4, 4, none⟩ (.int .i64 0) w21 fun w22 =>
  St ⟨k4, 5, none⟩ (.int .i64 0) w22 fun w23 =>
  St ⟨k4, 6, none⟩ (.bool false) w23 fun w24 =>
  St ⟨k4, 7, none⟩ (.int .i64 0) w24 fun w25 =>
  St ⟨k4, 8, none⟩ (.int .i64 0) w25 fun w26 =>
  St ⟨k4, 9, none⟩ (.int .i64 0) w26 fun w27 =>
  ∃ nr4_0 : Int, ∃ nr4_1 : Int, ∃ nr4_2 : Int, ∃ nr4_3 : Int, ∃ nr4_4 : Int, ∃ nr4_5 : Int, ∃ br4_6 : Bool, ∃ nr4_7 : Int, ∃ nr4_8 : Int, ∃ nr4_9 : Int, (w27.cell? ⟨k4, 0, none⟩ = some (.int .u64 nr4_0) ∧ w27.cell? ⟨k4, 1, none⟩ = some (.int .u64 nr4_1) ∧ w27.cell? ⟨k4, 2, none⟩ = some (.int .i64 nr4_2) ∧ w27.cell? ⟨k4, 3, none⟩ = some (.int .i64 nr4_3) ∧ w27.cell? ⟨k4, 4, none⟩ = some (.int .i64 nr4_4) ∧ w27.cell? ⟨k4, 5, none⟩ = some (.int .i64 nr4_5) ∧ w27.cell? ⟨k4, 6, none⟩ = some (.bool br4_6) ∧ w27.cell? ⟨k4, 7, none⟩ = some (.int .i64 nr4_7) ∧ w27.cell? ⟨k4, 8, none⟩ = some (.int .i64 nr4_8) ∧ w27.cell? ⟨k4, 9, none⟩ = some (.int .i64 nr4_9)) ∧
  R (.tuple #[.agg #[.int .u64 nr4_0, .int .u64 nr4_1, .int .i64 nr4_2, .int .i64 nr4_3, .int .i64 nr4_4, .int .i64 nr4_5, .bool br4_6, .int .i64 nr4_7, .int .i64 nr4_8, .int .i64 nr4_9], .int .i64 n26]) w27) ∧
  ((n26 != 0) = false →
  ∃ n31_0 : Int, ∃ n31_1 : Int, ∃ n31_2 : Int, ∃ n31_3 : Int, ∃ n31_4 : Int, ∃ n31_5 : Int, ∃ b31_6 : Bool, ∃ n31_7 : Int, ∃ n31_8 : Int, ∃ n31_9 : Int, (w17.cell? ⟨k3, 0, none⟩ = some (.int .u64 n31_0) ∧ w17.cell? ⟨k3, 1, none⟩ = some (.int .u64 n31_1) ∧ w17.cell? ⟨k3, 2, none⟩ = some (.int .i64 n31_2) ∧ w17.cell? ⟨k3, 3, none⟩ = some (.int .i64 n31_3) ∧ w17.cell? ⟨k3, 4, none⟩ = some (.int .i64 n31_4) ∧ w17.cell? ⟨k3, 5, none⟩ = some (.int .i64 n31_5) ∧ w17.cell? ⟨k3, 6, none⟩ = some (.bool b31_6) ∧ w17.cell? ⟨k3, 7, none⟩ = some (.int .i64 n31_7) ∧ w17.cell? ⟨k3, 8, none⟩ = some (.int .i64 n31_8) ∧ w17.cell? ⟨k3, 9, none⟩ = some (.int .i64 n31_9)) ∧
  St ⟨k4, 0, none⟩ (.int .u64 n31_0) w17 fun w28 =>
  St ⟨k4, 1, none⟩ (.int .u64 n31_1) w28 fun w29 =>
  St ⟨k4, 2, none⟩ (.int .i64 n31_2) w29 fun w30 =>
  St ⟨k4, 3, none⟩ (.int .i64 n31_3) w30 fun w31 =>
  St ⟨k4, 4, none⟩ (.int .i64 n31_4) w31 fun w32 =>
  St ⟨k4, 5, none⟩ (.int .i64 n31_5) w32 fun w33 =>
  St ⟨k4, 6, none⟩ (.bool b31_6) w33 fun w34 =>
  St ⟨k4, 7, none⟩ (.int .i64 n31_7) w34 fun w35 =>
  St ⟨k4, 8, none⟩ (.int .i64 n31_8) w35 fun w36 =>
  St ⟨k4, 9, none⟩ (.int .i64 n31_9) w36 fun w37 =>
  ∃ nr4_0_1 : Int, ∃ nr4_1_1 : Int, ∃ nr4_2_1 : Int, ∃ nr4_3_1 : Int, ∃ nr4_4_1 : Int, ∃ nr4_5_1 : Int, ∃ br4_6_1 : Bool, ∃ nr4_7_1 : Int, ∃ nr4_8_1 : Int, ∃ nr4_9_1 : Int, (w37.cell? ⟨k4, 0, none⟩ = some (.int .u64 nr4_0_1) ∧ w37.cell? ⟨k4, 1, none⟩ = some (.int .u64 nr4_1_1) ∧ w37.cell? ⟨k4, 2, none⟩ = some (.int .i64 nr4_2_1) ∧ w37.cell? ⟨k4, 3, none⟩ = some (.int .i64 nr4_3_1) ∧ w37.cell? ⟨k4, 4, none⟩ = some (.int .i64 nr4_4_1) ∧ w37.cell? ⟨k4, 5, none⟩ = some (.int .i64 nr4_5_1) ∧ w37.cell? ⟨k4, 6, none⟩ = some (.bool br4_6_1) ∧ w37.cell? ⟨k4, 7, none⟩ = some (.int .i64 nr4_7_1) ∧ w37.cell? ⟨k4, 8, none⟩ = some (.int .i64 nr4_8_1) ∧ w37.cell? ⟨k4, 9, none⟩ = some (.int .i64 nr4_9_1)) ∧
  R (.tuple #[.agg #[.int .u64 nr4_0_1, .int .u64 nr4_1_1, .int .i64 nr4_2_1, .int .i64 nr4_3_1, .int .i64 nr4_4_1, .int .i64 nr4_5_1, .bool br4_6_1, .int .i64 nr4_7_1, .int .i64 nr4_8_1, .int .i64 nr4_9_1], .int .i64 0]) w37)) fun J =>
  ((n12_1 == 0) = true →
  ∃ n20 : Int, w14.cell? ⟨k6, 1, none⟩ = some (.int .u64 n20) ∧
  J [.int .u64 n20] w14) ∧
  ((n12_1 == 0) = false →
  J [.int .u64 n16] w14)
theorem revetmentref09_Next_eq (p0 : Option Addr) (n1_0 : Int) (n1_1 : Int) (n1_2 : Int) (n1_3 : Int) (n1_4 : Int) (n1_5 : Int) (b1_6 : Bool) (n1_7 : Int) (n1_8 : Int) (n1_9 : Int) (w : World) (R : Value → World → Prop) : revetmentref09_Next p0 n1_0 n1_1 n1_2 n1_3 n1_4 n1_5 b1_6 n1_7 n1_8 n1_9 w R = fnP Try.prog Try.f40 (.s .o (.s .o (.s .o (.j [(8, .one (.int .u64))] .o .o)))) [.pointer p0, .agg #[.int .u64 n1_0, .int .u64 n1_1, .int .i64 n1_2, .int .i64 n1_3, .int .i64 n1_4, .int .i64 n1_5, .bool b1_6, .int .i64 n1_7, .int .i64 n1_8, .int .i64 n1_9]] w R := by kernel_rfl
theorem revetmentref09_Next_calls {p0 : Option Addr} {n1_0 : Int} {n1_1 : Int} {n1_2 : Int} {n1_3 : Int} {n1_4 : Int} {n1_5 : Int} {b1_6 : Bool} {n1_7 : Int} {n1_8 : Int} {n1_9 : Int} {w : World} {R : Value → World → Prop} (h : revetmentref09_Next p0 n1_0 n1_1 n1_2 n1_3 n1_4 n1_5 b1_6 n1_7 n1_8 n1_9 w R) : Calls Try.prog 40 #[.pointer p0, .agg #[.int .u64 n1_0, .int .u64 n1_1, .int .i64 n1_2, .int .i64 n1_3, .int .i64 n1_4, .int .i64 n1_5, .bool b1_6, .int .i64 n1_7, .int .i64 n1_8, .int .i64 n1_9]] w fun e w1 => ∃ v, e = .returned v ∧ R v w1 := fnP_calls callable Try.func40 (revetmentref09_Next_eq p0 n1_0 n1_1 n1_2 n1_3 n1_4 n1_5 b1_6 n1_7 n1_8 n1_9 w R ▸ h)

/-- revetment/revetmentref08.Encode -/
def revetmentref08_Encode (n0_0 : Int) (n0_1 : Int) (n0_2 : Int) (n0_3 : Int) (n0_4 : Int) (n0_5 : Int) (b0_6 : Bool) (n0_7 : Int) (n0_8 : Int) (n0_9 : Int) (w : World) (R : Value → World → Prop) : Prop :=
  Alloc #[.int .u64 n0_0, .int .u64 n0_1, .int .i64 n0_2, .int .i64 n0_3, .int .i64 n0_4, .int .i64 n0_5, .bool b0_6, .int .i64 n0_7, .int .i64 n0_8, .int .i64 n0_9] 76 w fun k1 w1 =>
  ∃ n9_0 : Int, ∃ n9_1 : Int, ∃ n9_2 : Int, ∃ n9_3 : Int, ∃ n9_4 : Int, ∃ n9_5 : Int, ∃ b9_6 : Bool, ∃ n9_7 : Int, ∃ n9_8 : Int, ∃ n9_9 : Int, (w1.cell? ⟨k1, 0, none⟩ = some (.int .u64 n9_0) ∧ w1.cell? ⟨k1, 1, none⟩ = some (.int .u64 n9_1) ∧ w1.cell? ⟨k1, 2, none⟩ = some (.int .i64 n9_2) ∧ w1.cell? ⟨k1, 3, none⟩ = some (.int .i64 n9_3) ∧ w1.cell? ⟨k1, 4, none⟩ = some (.int .i64 n9_4) ∧ w1.cell? ⟨k1, 5, none⟩ = some (.int .i64 n9_5) ∧ w1.cell? ⟨k1, 6, none⟩ = some (.bool b9_6) ∧ w1.cell? ⟨k1, 7, none⟩ = some (.int .i64 n9_7) ∧ w1.cell? ⟨k1, 8, none⟩ = some (.int .i64 n9_8) ∧ w1.cell? ⟨k1, 9, none⟩ = some (.int .i64 n9_9)) ∧
  Calls Try.prog 81 #[.agg #[.int .u64 n9_0, .int .u64 n9_1, .int .i64 n9_2, .int .i64 n9_3, .int .i64 n9_4, .int .i64 n9_5, .bool b9_6, .int .i64 n9_7, .int .i64 n9_8, .int .i64 n9_9]] w1 fun e w2 => ∃ b10 : Bool, e = .returned (.bool b10) ∧
  ((!b10) = true →
  R (.tuple #[.string (ByteArray.mk #[]), .int .i64 1]) w2) ∧
  ((!b10) = false →
  Join (fun vs w3 => ∃ n4 : Int, vs = [.int .u64 n4] ∧
  ∃ D : World → Prop, D w3.drew ∧
  ∃ n16 : Int, (∀ w, D w → w.cell? ⟨k1, 0, none⟩ = some (.int .u64 n16)) ∧
  ∃ n18 : Int, (∀ w, D w → w.cell? ⟨k1, 1, none⟩ = some (.int .u64 n18)) ∧
  ∃ n20 : Int, (∀ w, D w → w.cell? ⟨k1, 2, none⟩ = some (.int .i64 n20)) ∧
  ∃ n24 : Int, (∀ w, D w → w.cell? ⟨k1, 3, none⟩ = some (.int .i64 n24)) ∧
  ∃ n28 : Int, (∀ w, D w → w.cell? ⟨k1, 4, none⟩ = some (.int .i64 n28)) ∧
  ∃ n32 : Int, (∀ w, D w → w.cell? ⟨k1, 5, none⟩ = some (.int .i64 n32)) ∧
  ∃ n36 : Int, (∀ w, D w → w.cell? ⟨k1, 7, none⟩ = some (.int .i64 n36)) ∧
  ∃ n39 : Int, (∀ w, D w → w.cell? ⟨k1, 8, none⟩ = some (.int .i64 n39)) ∧
  ∃ n42 : Int, (∀ w, D w → w.cell? ⟨k1, 9, none⟩ = some (.int .i64 n42)) ∧
  (Alloc #[.int .u64 827610706, .int .u64 n16, .int .u64 n18, .int .u64 (IntKind.u64.wrap n20), .int .u64 (IntKind.u64.wrap n24), .int .u64 (IntKind.u64.wrap n28), .int .u64 (IntKind.u64.wrap n32), .int .u64 n4, .int .u64 (IntKind.u64.wrap n36), .int .u64 (IntKind.u64.wrap n39), .int .u64 (IntKind.u64.wrap n42)] 53 w3.drew fun k44 w4 =>
  D w4 ∧
  Calls Try.prog 83 #[] w4 fun e_1 w5 => ∃ (p45 : Option Addr) (l45 c45 : Nat), e_1 = .returned (.slice p45 l45 c45) ∧
  D w5 ∧
  Calls Try.prog 82 #[.slice (some ⟨k44, 0, none⟩) 11 11, .slice p45 l45 c45] w5 fun e_2 w6 => ∃ s46_0 : ByteArray, ∃ n46_1 : Int, e_2 = .returned (.tuple #[.string s46_0, .int .i64 n46_1]) ∧
  D w6 ∧
  Calls Try.prog 84 #[.string s46_0, .int .i64 64] w6 fun e_3 w7 => ∃ s51_0 : ByteArray, ∃ b51_1 : Bool, e_3 = .returned (.tuple #[.string s51_0, .bool b51_1]) ∧
  R (.tuple #[.string s51_0, .int .i64 0]) w7) ∧
  (Calls Try.prog 83 #[] w3.drew fun e_4 w8 => ∃ (p45_1 : Option Addr) (l45_1 c45_1 : Nat), e_4 = .returned (.slice p45_1 l45_1 c45_1) ∧
  D w8 ∧
  Alloc #[.int .u64 827610706, .int .u64 n16, .int .u64 n18, .int .u64 (IntKind.u64.wrap n20), .int .u64 (IntKind.u64.wrap n24), .int .u64 (IntKind.u64.wrap n28), .int .u64 (IntKind.u64.wrap n32), .int .u64 n4, .int .u64 (IntKind.u64.wrap n36), .int .u64 (IntKind.u64.wrap n39), .int .u64 (IntKind.u64.wrap n42)] 53 w8 fun k44_1 w9 =>
  D w9 ∧
  Calls Try.prog 82 #[.slice (some ⟨k44_1, 0, none⟩) 11 11, .slice p45_1 l45_1 c45_1] w9 fun e_5 w10 => ∃ s46_0_1 : ByteArray, ∃ n46_1_1 : Int, e_5 = .returned (.tuple #[.string s46_0_1, .int .i64 n46_1_1]) ∧
  D w10 ∧
  Calls Try.prog 84 #[.string s46_0_1, .int .i64 64] w10 fun e_6 w11 => ∃ s51_0_1 : ByteArray, ∃ b51_1_1 : Bool, e_6 = .returned (.tuple #[.string s51_0_1, .bool b51_1_1]) ∧
  R (.tuple #[.string s51_0_1, .int .i64 0]) w11)) fun J =>
  ∃ b13 : Bool, w2.cell? ⟨k1, 6, none⟩ = some (.bool b13) ∧
  (b13 = true →
  J [.int .u64 1] w2) ∧
  (b13 = false →
  J [.int .u64 0] w2))
theorem revetmentref08_Encode_eq (n0_0 : Int) (n0_1 : Int) (n0_2 : Int) (n0_3 : Int) (n0_4 : Int) (n0_5 : Int) (b0_6 : Bool) (n0_7 : Int) (n0_8 : Int) (n0_9 : Int) (w : World) (R : Value → World → Prop) : revetmentref08_Encode n0_0 n0_1 n0_2 n0_3 n0_4 n0_5 b0_6 n0_7 n0_8 n0_9 w R = fnP Try.prog Try.f67 (.s .o (.s .o (.s .o (.j [(4, .one (.int .u64))] .o .o)))) [.agg #[.int .u64 n0_0, .int .u64 n0_1, .int .i64 n0_2, .int .i64 n0_3, .int .i64 n0_4, .int .i64 n0_5, .bool b0_6, .int .i64 n0_7, .int .i64 n0_8, .int .i64 n0_9]] w R := by kernel_rfl
theorem revetmentref08_Encode_calls {n0_0 : Int} {n0_1 : Int} {n0_2 : Int} {n0_3 : Int} {n0_4 : Int} {n0_5 : Int} {b0_6 : Bool} {n0_7 : Int} {n0_8 : Int} {n0_9 : Int} {w : World} {R : Value → World → Prop} (h : revetmentref08_Encode n0_0 n0_1 n0_2 n0_3 n0_4 n0_5 b0_6 n0_7 n0_8 n0_9 w R) : Calls Try.prog 67 #[.agg #[.int .u64 n0_0, .int .u64 n0_1, .int .i64 n0_2, .int .i64 n0_3, .int .i64 n0_4, .int .i64 n0_5, .bool b0_6, .int .i64 n0_7, .int .i64 n0_8, .int .i64 n0_9]] w fun e w1 => ∃ v, e = .returned v ∧ R v w1 := fnP_calls callable Try.func67 (revetmentref08_Encode_eq n0_0 n0_1 n0_2 n0_3 n0_4 n0_5 b0_6 n0_7 n0_8 n0_9 w R ▸ h)

/-- revetment/revetmentref09.Load -/
def revetmentref09_Load (p0 : Option Addr) (w : World) (R : Value → World → Prop) : Prop :=
  Alloc #[.int .u64 0, .int .u64 0, .int .i64 0, .int .i64 0, .int .i64 0, .int .i64 0, .bool false, .int .i64 0, .int .i64 0, .int .i64 0] 76 w fun k2 w1 =>
  ∃ a9 : Addr, p0 = some a9 ∧
  ∃ b11 : Bool, w1.cell? (a9.add 3) = some (.bool b11) ∧
  (b11 = true →
  St ⟨k2, 0, none⟩ (.int .u64 0) w1 fun w2 =>
  St ⟨k2, 1, none⟩ (.int .u64 0) w2 fun w3 =>
  St ⟨k2, 2, none⟩ (.int .i64 0) w3 fun w4 =>
  St ⟨k2, 3, none⟩ (.int .i64 0) w4 fun w5 =>
  St ⟨k2, 4, none⟩ (.int .i64 0) w5 fun w6 =>
  St ⟨k2, 5, none⟩ (.int .i64 0) w6 fun w7 =>
  St ⟨k2, 6, none⟩ (.bool false) w7 fun w8 =>
  St ⟨k2, 7, none⟩ (.int .i64 0) w8 fun w9 =>
  St ⟨k2, 8, none⟩ (.int .i64 0) w9 fun w10 =>
  St ⟨k2, 9, none⟩ (.int .i64 0) w10 fun w11 =>
  ∃ nr2_0 : Int, ∃ nr2_1 : Int, ∃ nr2_2 : Int, ∃ nr2_3 : Int, ∃ nr2_4 : Int, ∃ nr2_5 : Int, ∃ br2_6 : Bool, ∃ nr2_7 : Int, ∃ nr2_8 : Int, ∃ nr2_9 : Int, (w11.cell? ⟨k2, 0, none⟩ = some (.int .u64 nr2_0) ∧ w11.cell? ⟨k2, 1, none⟩ = some (.int .u64 nr2_1) ∧ w11.cell? ⟨k2, 2, none⟩ = some (.int .i64 nr2_2) ∧ w11.cell? ⟨k2, 3, none⟩ = some (.int .i64 nr2_3) ∧ w11.cell? ⟨k2, 4, none⟩ = some (.int .i64 nr2_4) ∧ w11.cell? ⟨k2, 5, none⟩ = some (.int .i64 nr2_5) ∧ w11.cell? ⟨k2, 6, none⟩ = some (.bool br2_6) ∧ w11.cell? ⟨k2, 7, none⟩ = some (.int .i64 nr2_7) ∧ w11.cell? ⟨k2, 8, none⟩ = some (.int .i64 nr2_8) ∧ w11.cell? ⟨k2, 9, none⟩ = some (.int .i64 nr2_9)) ∧
  R (.tuple #[.agg #[.int .u64 nr2_0, .int .u64 nr2_1, .int .i64 nr2_2, .int .i64 nr2_3, .int .i64 nr2_4, .int .i64 nr2_5, .bool br2_6, .int .i64 nr2_7, .int .i64 nr2_8, .int .i64 nr2_9], .int .i64 40]) w11) ∧
  (b11 = false →
  Calls Try.prog 69 #[.pointer p0, .int .i64 0] w1 fun e w12 => ∃ n15_0_0 : Int, ∃ n15_0_1 : Int, ∃ n15_0_2 : Int, ∃ n15_0_3 : Int, ∃ n15_0_4 : Int, ∃ n15_0_5 : Int, ∃ b15_0_6 : Bool, ∃ n15_0_7 : Int, ∃ n15_0_8 : Int, ∃ n15_0_9 : Int, ∃ b15_1 : Bool, e = .returned (.tuple #[.agg #[.int .u64 n15_0_0, .int .u64 n15_0_1, .int .i64 n15_0_2, .int .i64 n15_0_3, .int .i64 n15_0_4, .int .i64 n15_0_5, .bool b15_0_6, .int .i64 n15_0_7, .int .i64 n15_0_8, .int .i64 n15_0_9], .bool b15_1]) ∧
  Alloc #[.int .u64 0, .int .u64 0, .int .i64 0, .int .i64 0, .int .i64 0, .int .i64 0, .bool false, .int .i64 0, .int .i64 0, .int .i64 0] 76 w12 fun k4 w13 =>
  St ⟨k4, 0, none⟩ (.int .u64 n15_0_0) w13 fun w14 =>
  St ⟨k4, 1, none⟩ (.int .u64 n15_0_1) w14 fun w15 =>
  St ⟨k4, 2, none⟩ (.int .i64 n15_0_2) w15 fun w16 =>
  St ⟨k4, 3, none⟩ (.int .i64 n15_0_3) w16 fun w17 =>
  St ⟨k4, 4, none⟩ (.int .i64 n15_0_4) w17 fun w18 =>
  St ⟨k4, 5, none⟩ (.int .i64 n15_0_5) w18 fun w19 =>
  St ⟨k4, 6, none⟩ (.bool b15_0_6) w19 fun w20 =>
  St ⟨k4, 7, none⟩ (.int .i64 n15_0_7) w20 fun w21 =>
  St ⟨k4, 8, none⟩ (.int .i64 n15_0_8) w21 fun w22 =>
  St ⟨k4, 9, none⟩ (.int .i64 n15_0_9) w22 fun w23 =>
  Calls Try.prog 69 #[.pointer p0, .int .i64 1] w23 fun e_1 w24 => ∃ n20_0_0 : Int, ∃ n20_0_1 : Int, ∃ n20_0_2 : Int, ∃ n20_0_3 : Int, ∃ n20_0_4 : Int, ∃ n20_0_5 : Int, ∃ b20_0_6 : Bool, ∃ n20_0_7 : Int, ∃ n20_0_8 : Int, ∃ n20_0_9 : Int, ∃ b20_1 : Bool, e_1 = .returned (.tuple #[.agg #[.int .u64 n20_0_0, .int .u64 n20_0_1, .int .i64 n20_0_2, .int .i64 n20_0_3, .int .i64 n20_0_4, .int .i64 n20_0_5, .bool b20_0_6, .int .i64 n20_0_7, .int .i64 n20_0_8, .int .i64 n20_0_9], .bool b20_1]) ∧
  Alloc #[.int .u64 0, .int .u64 0, .int .i64 0, .int .i64 0, .int .i64 0, .int .i64 0, .bool false, .int .i64 0, .int .i64 0, .int .i64 0] 76 w24 fun k6 w25 =>
  St ⟨k6, 0, none⟩ (.int .u64 n20_0_0) w25 fun w26 =>
  St ⟨k6, 1, none⟩ (.int .u64 n20_0_1) w26 fun w27 =>
  St ⟨k6, 2, none⟩ (.int .i64 n20_0_2) w27 fun w28 =>
  St ⟨k6, 3, none⟩ (.int .i64 n20_0_3) w28 fun w29 =>
  St ⟨k6, 4, none⟩ (.int .i64 n20_0_4) w29 fun w30 =>
  St ⟨k6, 5, none⟩ (.int .i64 n20_0_5) w30 fun w31 =>
  St ⟨k6, 6, none⟩ (.bool b20_0_6) w31 fun w32 =>
  St ⟨k6, 7, none⟩ (.int .i64 n20_0_7) w32 fun w33 =>
  St ⟨k6, 8, none⟩ (.int .i64 n20_0_8) w33 fun w34 =>
  St ⟨k6, 9, none⟩ (.int .i64 n20_0_9) w34 fun w35 =>
  Join (fun vs w36 => vs = [] ∧
  St ⟨k2, 0, none⟩ (.int .u64 0) w36 fun w37 =>
  St ⟨k2, 1, none⟩ (.int .u64 0) w37 fun w38 =>
  St ⟨k2, 2, none⟩ (.int .i64 0) w38 fun w39 =>
  St ⟨k2, 3, none⟩ (.int .i64 0) w39 fun w40 =>
  St ⟨k2, 4, none⟩ (.int .i64 0) w40 fun w41 =>
  St ⟨k2, 5, none⟩ (.int .i64 0) w41 fun w42 =>
  St ⟨k2, 6, none⟩ (.bool false) w42 fun w43 =>
  St ⟨k2, 7, none⟩ (.int .i64 0) w43 fun w44 =>
  St ⟨k2, 8, none⟩ (.int .i64 0) w44 fun w45 =>
  St ⟨k2, 9, none⟩ (.int .i64 0) w45 fun w46 =>
  ∃ nr2_0_1 : Int, ∃ nr2_1_1 : Int, ∃ nr2_2_1 : Int, ∃ nr2_3_1 : Int, ∃ nr2_4_1 : Int, ∃ nr2_5_1 : Int, ∃ br2_6_1 : Bool, ∃ nr2_7_1 : Int, ∃ nr2_8_1 : Int, ∃ nr2_9_1 : Int, (w46.cell? ⟨k2, 0, none⟩ = some (.int .u64 nr2_0_1) ∧ w46.cell? ⟨k2, 1, none⟩ = some (.int .u64 nr2_1_1) ∧ w46.cell? ⟨k2, 2, none⟩ = some (.int .i64 nr2_2_1) ∧ w46.cell? ⟨k2, 3, none⟩ = some (.int .i64 nr2_3_1) ∧ w46.cell? ⟨k2, 4, none⟩ = some (.int .i64 nr2_4_1) ∧ w46.cell? ⟨k2, 5, none⟩ = some (.int .i64 nr2_5_1) ∧ w46.cell? ⟨k2, 6, none⟩ = some (.bool br2_6_1) ∧ w46.cell? ⟨k2, 7, none⟩ = some (.int .i64 nr2_7_1) ∧ w46.cell? ⟨k2, 8, none⟩ = some (.int .i64 nr2_8_1) ∧ w46.cell? ⟨k2, 9, none⟩ = some (.int .i64 nr2_9_1)) ∧
  R (.tuple #[.agg #[.int .u64 nr2_0_1, .int .u64 nr2_1_1, .int .i64 nr2_2_1, .int .i64 nr2_3_1, .int .i64 nr2_4_1, .int .i64 nr2_5_1, .bool br2_6_1, .int .i64 nr2_7_1, .int .i64 nr2_8_1, .int .i64 nr2_9_1], .int .i64 90]) w46) fun J =>
  (b15_1 = true →
  (b20_1 = true →
  ∃ n30 : Int, w35.cell? ⟨k6, 1, none⟩ = some (.int .u64 n30) ∧
  ∃ n32 : Int, w35.cell? ⟨k4, 1, none⟩ = some (.int .u64 n32) ∧
  ((decide (n30 > n32)) = true →
  ∃ n35_0 : Int, ∃ n35_1 : Int, ∃ n35_2 : Int, ∃ n35_3 : Int, ∃ n35_4 : Int, ∃ n35_5 : Int, ∃ b35_6 : Bool, ∃ n35_7 : Int, ∃ n35_8 : Int, ∃ n35_9 : Int, (w35.cell? ⟨k6, 0, none⟩ = some (.int .u64 n35_0) ∧ w35.cell? ⟨k6, 1, none⟩ = some (.int .u64 n35_1) ∧ w35.cell? ⟨k6, 2, none⟩ = some (.int .i64 n35_2) ∧ w35.cell? ⟨k6, 3, none⟩ = some (.int .i64 n35_3) ∧ w35.cell? ⟨k6, 4, none⟩ = some (.int .i64 n35_4) ∧ w35.cell? ⟨k6, 5, none⟩ = some (.int .i64 n35_5) ∧ w35.cell? ⟨k6, 6, none⟩ = some (.bool b35_6) ∧ w35.cell? ⟨k6, 7, none⟩ = some (.int .i64 n35_7) ∧ w35.cell? ⟨k6, 8, none⟩ = some (.int .i64 n35_8) ∧ w35.cell? ⟨k6, 9, none⟩ = some (.int .i64 n35_9)) ∧
  St ⟨k2, 0, none⟩ (.int .u64 n35_0) w35 fun w47 =>
  St ⟨k2, 1, none⟩ (.int .u64 n35_1) w47 fun w48 =>
  St ⟨k2, 2, none⟩ (.int .i64 n35_2) w48 fun w49 =>
  St ⟨k2, 3, none⟩ (.int .i64 n35_3) w49 fun w50 =>
  St ⟨k2, 4, none⟩ (.int .i64 n35_4) w50 fun w51 =>
  St ⟨k2, 5, none⟩ (.int .i64 n35_5) w51 fun w52 =>
  St ⟨k2, 6, none⟩ (.bool b35_6) w52 fun w53 =>
  St ⟨k2, 7, none⟩ (.int .i64 n35_7) w53 fun w54 =>
  St ⟨k2, 8, none⟩ (.int .i64 n35_8) w54 fun w55 =>
  St ⟨k2, 9, none⟩ (.int .i64 n35_9) w55 fun w56 =>
  ∃ nr2_0_2 : Int, ∃ nr2_1_2 : Int, ∃ nr2_2_2 : Int, ∃ nr2_3_2 : Int, ∃ nr2_4_2 : Int, ∃ nr2_5_2 : Int, ∃ br2_6_2 : Bool, ∃ nr2_7_2 : Int, ∃ nr2_8_2 : Int, ∃ nr2_9_2 : Int, (w56.cell? ⟨k2, 0, none⟩ = some (.int .u64 nr2_0_2) ∧ w56.cell? ⟨k2, 1, none⟩ = some (.int .u64 nr2_1_2) ∧ w56.cell? ⟨k2, 2, none⟩ = some (.int .i64 nr2_2_2) ∧ w56.cell? ⟨k2, 3, none⟩ = some (.int .i64 nr2_3_2) ∧ w56.cell? ⟨k2, 4, none⟩ = some (.int .i64 nr2_4_2) ∧ w56.cell? ⟨k2, 5, none⟩ = some (.int .i64 nr2_5_2) ∧ w56.cell? ⟨k2, 6, none⟩ = some (.bool br2_6_2) ∧ w56.cell? ⟨k2, 7, none⟩ = some (.int .i64 nr2_7_2) ∧ w56.cell? ⟨k2, 8, none⟩ = some (.int .i64 nr2_8_2) ∧ w56.cell? ⟨k2, 9, none⟩ = some (.int .i64 nr2_9_2)) ∧
  R (.tuple #[.agg #[.int .u64 nr2_0_2, .int .u64 nr2_1_2, .int .i64 nr2_2_2, .int .i64 nr2_3_2, .int .i64 nr2_4_2, .int .i64 nr2_5_2, .bool br2_6_2, .int .i64 nr2_7_2, .int .i64 nr2_8_2, .int .i64 nr2_9_2], .int .i64 0]) w56) ∧
  ((decide (n30 > n32)) = false →
  (b15_1 = true →
  ∃ n38_0 : Int, ∃ n38_1 : Int, ∃ n38_2 : Int, ∃ n38_3 : Int, ∃ n38_4 : Int, ∃ n38_5 : Int, ∃ b38_6 : Bool, ∃ n38_7 : Int, ∃ n38_8 : Int, ∃ n38_9 : Int, (w35.cell? ⟨k4, 0, none⟩ = some (.int .u64 n38_0) ∧ w35.cell? ⟨k4, 1, none⟩ = some (.int .u64 n38_1) ∧ w35.cell? ⟨k4, 2, none⟩ = some (.int .i64 n38_2) ∧ w35.cell? ⟨k4, 3, none⟩ = some (.int .i64 n38_3) ∧ w35.cell? ⟨k4, 4, none⟩ = some (.int .i64 n38_4) ∧ w35.cell? ⟨k4, 5, none⟩ = some (.int .i64 n38_5) ∧ w35.cell? ⟨k4, 6, none⟩ = some (.bool b38_6) ∧ w35.cell? ⟨k4, 7, none⟩ = some (.int .i64 n38_7) ∧ w35.cell? ⟨k4, 8, none⟩ = some (.int .i64 n38_8) ∧ w35.cell? ⟨k4, 9, none⟩ = some (.int .i64 n38_9)) ∧
  St ⟨k2, 0, none⟩ (.int .u64 n38_0) w35 fun w57 =>
  St ⟨k2, 1, none⟩ (.int .u64 n38_1) w57 fun w58 =>
  St ⟨k2, 2, none⟩ (.int .i64 n38_2) w58 fun w59 =>
  St ⟨k2, 3, none⟩ (.int .i64 n38_3) w59 fun w60 =>
  St ⟨k2, 4, none⟩ (.int .i64 n38_4) w60 fun w61 =>
  St ⟨k2, 5, none⟩ (.int .i64 n38_5) w61 fun w62 =>
  St ⟨k2, 6, none⟩ (.bool b38_6) w62 fun w63 =>
  St ⟨k2, 7, none⟩ (.int .i64 n38_7) w63 fun w64 =>
  St ⟨k2, 8, none⟩ (.int .i64 n38_8) w64 fun w65 =>
  St ⟨k2, 9, none⟩ (.int .i64 n38_9) w65 fun w66 =>
  ∃ nr2_0_3 : Int, ∃ nr2_1_3 : Int, ∃ nr2_2_3 : Int, ∃ nr2_3_3 : Int, ∃ nr2_4_3 : Int, ∃ nr2_5_3 : Int, ∃ br2_6_3 : Bool, ∃ nr2_7_3 : Int, ∃ nr2_8_3 : Int, ∃ nr2_9_3 : Int, (w66.cell? ⟨k2, 0, none⟩ = some (.int .u64 nr2_0_3) ∧ w66.cell? ⟨k2, 1, none⟩ = some (.int .u64 nr2_1_3) ∧ w66.cell? ⟨k2, 2, none⟩ = some (.int .i64 nr2_2_3) ∧ w66.cell? ⟨k2, 3, none⟩ = some (.int .i64 nr2_3_3) ∧ w66.cell? ⟨k2, 4, none⟩ = some (.int .i64 nr2_4_3) ∧ w66.cell? ⟨k2, 5, none⟩ = some (.int .i64 nr2_5_3) ∧ w66.cell? ⟨k2, 6, none⟩ = some (.bool br2_6_3) ∧ w66.cell? ⟨k2, 7, none⟩ = some (.int .i64 nr2_7_3) ∧ w66.cell? ⟨k2, 8, none⟩ = some (.int .i64 nr2_8_3) ∧ w66.cell? ⟨k2, 9, none⟩ = some (.int .i64 nr2_9_3)) ∧
  R (.tuple #[.agg #[.int .u64 nr2_0_3, .int .u64 nr2_1_3, .int .i64 nr2_2_3, .int .i64 nr2_3_3, .int .i64 nr2_4_3, .int .i64 nr2_5_3, .bool br2_6_3, .int .i64 nr2_7_3, .int .i64 nr2_8_3, .int .i64 nr2_9_3], .int .i64 0]) w66) ∧
  (b15_1 = false →
  (b20_1 = true →
  ∃ n41_0 : Int, ∃ n41_1 : Int, ∃ n41_2 : Int, ∃ n41_3 : Int, ∃ n41_4 : Int, ∃ n41_5 : Int, ∃ b41_6 : Bool, ∃ n41_7 : Int, ∃ n41_8 : Int, ∃ n41_9 : Int, (w35.cell? ⟨k6, 0, none⟩ = some (.int .u64 n41_0) ∧ w35.cell? ⟨k6, 1, none⟩ = some (.int .u64 n41_1) ∧ w35.cell? ⟨k6, 2, none⟩ = some (.int .i64 n41_2) ∧ w35.cell? ⟨k6, 3, none⟩ = some (.int .i64 n41_3) ∧ w35.cell? ⟨k6, 4, none⟩ = some (.int .i64 n41_4) ∧ w35.cell? ⟨k6, 5, none⟩ = some (.int .i64 n41_5) ∧ w35.cell? ⟨k6, 6, none⟩ = some (.bool b41_6) ∧ w35.cell? ⟨k6, 7, none⟩ = some (.int .i64 n41_7) ∧ w35.cell? ⟨k6, 8, none⟩ = some (.int .i64 n41_8) ∧ w35.cell? ⟨k6, 9, none⟩ = some (.int .i64 n41_9)) ∧
  St ⟨k2, 0, none⟩ (.int .u64 n41_0) w35 fun w67 =>
  St ⟨k2, 1, none⟩ (.int .u64 n41_1) w67 fun w68 =>
  St ⟨k2, 2, none⟩ (.int .i64 n41_2) w68 fun w69 =>
  St ⟨k2, 3, none⟩ (.int .i64 n41_3) w69 fun w70 =>
  St ⟨k2, 4, none⟩ (.int .i64 n41_4) w70 fun w71 =>
  St ⟨k2, 5, none⟩ (.int .i64 n41_5) w71 fun w72 =>
  St ⟨k2, 6, none⟩ (.bool b41_6) w72 fun w73 =>
  St ⟨k2, 7, none⟩ (.int .i64 n41_7) w73 fun w74 =>
  St ⟨k2, 8, none⟩ (.int .i64 n41_8) w74 fun w75 =>
  St ⟨k2, 9, none⟩ (.int .i64 n41_9) w75 fun w76 =>
  ∃ nr2_0_4 : Int, ∃ nr2_1_4 : Int, ∃ nr2_2_4 : Int, ∃ nr2_3_4 : Int, ∃ nr2_4_4 : Int, ∃ nr2_5_4 : Int, ∃ br2_6_4 : Bool, ∃ nr2_7_4 : Int, ∃ nr2_8_4 : Int, ∃ nr2_9_4 : Int, (w76.cell? ⟨k2, 0, none⟩ = some (.int .u64 nr2_0_4) ∧ w76.cell? ⟨k2, 1, none⟩ = some (.int .u64 nr2_1_4) ∧ w76.cell? ⟨k2, 2, none⟩ = some (.int .i64 nr2_2_4) ∧ w76.cell? ⟨k2, 3, none⟩ = some (.int .i64 nr2_3_4) ∧ w76.cell? ⟨k2, 4, none⟩ = some (.int .i64 nr2_4_4) ∧ w76.cell? ⟨k2, 5, none⟩ = some (.int .i64 nr2_5_4) ∧ w76.cell? ⟨k2, 6, none⟩ = some (.bool br2_6_4) ∧ w76.cell? ⟨k2, 7, none⟩ = some (.int .i64 nr2_7_4) ∧ w76.cell? ⟨k2, 8, none⟩ = some (.int .i64 nr2_8_4) ∧ w76.cell? ⟨k2, 9, none⟩ = some (.int .i64 nr2_9_4)) ∧
  R (.tuple #[.agg #[.int .u64 nr2_0_4, .int .u64 nr2_1_4, .int .i64 nr2_2_4, .int .i64 nr2_3_4, .int .i64 nr2_4_4, .int .i64 nr2_5_4, .bool br2_6_4, .int .i64 nr2_7_4, .int .i64 nr2_8_4, .int .i64 nr2_9_4], .int .i64 0]) w76) ∧
  (b20_1 = false →
  J [] w35)))) ∧
  (b20_1 = false →
  (b15_1 = true →
  ∃ n38_0_1 : Int, ∃ n38_1_1 : Int, ∃ n38_2_1 : Int, ∃ n38_3_1 : Int, ∃ n38_4_1 : Int, ∃ n38_5_1 : Int, ∃ b38_6_1 : Bool, ∃ n38_7_1 : Int, ∃ n38_8_1 : Int, ∃ n38_9_1 : Int, (w35.cell? ⟨k4, 0, none⟩ = some (.int .u64 n38_0_1) ∧ w35.cell? ⟨k4, 1, none⟩ = some (.int .u64 n38_1_1) ∧ w35.cell? ⟨k4, 2, none⟩ = some (.int .i64 n38_2_1) ∧ w35.cell? ⟨k4, 3, none⟩ = some (.int .i64 n38_3_1) ∧ w35.cell? ⟨k4, 4, none⟩ = some (.int .i64 n38_4_1) ∧ w35.cell? ⟨k4, 5, none⟩ = some (.int .i64 n38_5_1) ∧ w35.cell? ⟨k4, 6, none⟩ = some (.bool b38_6_1) ∧ w35.cell? ⟨k4, 7, none⟩ = some (.int .i64 n38_7_1) ∧ w35.cell? ⟨k4, 8, none⟩ = some (.int .i64 n38_8_1) ∧ w35.cell? ⟨k4, 9, none⟩ = some (.int .i64 n38_9_1)) ∧
  St ⟨k2, 0, none⟩ (.int .u64 n38_0_1) w35 fun w77 =>
  St ⟨k2, 1, none⟩ (.int .u64 n38_1_1) w77 fun w78 =>
  St ⟨k2, 2, none⟩ (.int .i64 n38_2_1) w78 fun w79 =>
  St ⟨k2, 3, none⟩ (.int .i64 n38_3_1) w79 fun w80 =>
  St ⟨k2, 4, none⟩ (.int .i64 n38_4_1) w80 fun w81 =>
  St ⟨k2, 5, none⟩ (.int .i64 n38_5_1) w81 fun w82 =>
  St ⟨k2, 6, none⟩ (.bool b38_6_1) w82 fun w83 =>
  St ⟨k2, 7, none⟩ (.int .i64 n38_7_1) w83 fun w84 =>
  St ⟨k2, 8, none⟩ (.int .i64 n38_8_1) w84 fun w85 =>
  St ⟨k2, 9, none⟩ (.int .i64 n38_9_1) w85 fun w86 =>
  ∃ nr2_0_5 : Int, ∃ nr2_1_5 : Int, ∃ nr2_2_5 : Int, ∃ nr2_3_5 : Int, ∃ nr2_4_5 : Int, ∃ nr2_5_5 : Int, ∃ br2_6_5 : Bool, ∃ nr2_7_5 : Int, ∃ nr2_8_5 : Int, ∃ nr2_9_5 : Int, (w86.cell? ⟨k2, 0, none⟩ = some (.int .u64 nr2_0_5) ∧ w86.cell? ⟨k2, 1, none⟩ = some (.int .u64 nr2_1_5) ∧ w86.cell? ⟨k2, 2, none⟩ = some (.int .i64 nr2_2_5) ∧ w86.cell? ⟨k2, 3, none⟩ = some (.int .i64 nr2_3_5) ∧ w86.cell? ⟨k2, 4, none⟩ = some (.int .i64 nr2_4_5) ∧ w86.cell? ⟨k2, 5, none⟩ = some (.int .i64 nr2_5_5) ∧ w86.cell? ⟨k2, 6, none⟩ = some (.bool br2_6_5) ∧ w86.cell? ⟨k2, 7, none⟩ = some (.int .i64 nr2_7_5) ∧ w86.cell? ⟨k2, 8, none⟩ = some (.int .i64 nr2_8_5) ∧ w86.cell? ⟨k2, 9, none⟩ = some (.int .i64 nr2_9_5)) ∧
  R (.tuple #[.agg #[.int .u64 nr2_0_5, .int .u64 nr2_1_5, .int .i64 nr2_2_5, .int .i64 nr2_3_5, .int .i64 nr2_4_5, .int .i64 nr2_5_5, .bool br2_6_5, .int .i64 nr2_7_5, .int .i64 nr2_8_5, .int .i64 nr2_9_5], .int .i64 0]) w86) ∧
  (b15_1 = false →
  (b20_1 = true →
  ∃ n41_0_1 : Int, ∃ n41_1_1 : Int, ∃ n41_2_1 : Int, ∃ n41_3_1 : Int, ∃ n41_4_1 : Int, ∃ n41_5_1 : Int, ∃ b41_6_1 : Bool, ∃ n41_7_1 : Int, ∃ n41_8_1 : Int, ∃ n41_9_1 : Int, (w35.cell? ⟨k6, 0, none⟩ = some (.int .u64 n41_0_1) ∧ w35.cell? ⟨k6, 1, none⟩ = some (.int .u64 n41_1_1) ∧ w35.cell? ⟨k6, 2, none⟩ = some (.int .i64 n41_2_1) ∧ w35.cell? ⟨k6, 3, none⟩ = some (.int .i64 n41_3_1) ∧ w35.cell? ⟨k6, 4, none⟩ = some (.int .i64 n41_4_1) ∧ w35.cell? ⟨k6, 5, none⟩ = some (.int .i64 n41_5_1) ∧ w35.cell? ⟨k6, 6, none⟩ = some (.bool b41_6_1) ∧ w35.cell? ⟨k6, 7, none⟩ = some (.int .i64 n41_7_1) ∧ w35.cell? ⟨k6, 8, none⟩ = some (.int .i64 n41_8_1) ∧ w35.cell? ⟨k6, 9, none⟩ = some (.int .i64 n41_9_1)) ∧
  St ⟨k2, 0, none⟩ (.int .u64 n41_0_1) w35 fun w87 =>
  St ⟨k2, 1, none⟩ (.int .u64 n41_1_1) w87 fun w88 =>
  St ⟨k2, 2, none⟩ (.int .i64 n41_2_1) w88 fun w89 =>
  St ⟨k2, 3, none⟩ (.int .i64 n41_3_1) w89 fun w90 =>
  St ⟨k2, 4, none⟩ (.int .i64 n41_4_1) w90 fun w91 =>
  St ⟨k2, 5, none⟩ (.int .i64 n41_5_1) w91 fun w92 =>
  St ⟨k2, 6, none⟩ (.bool b41_6_1) w92 fun w93 =>
  St ⟨k2, 7, none⟩ (.int .i64 n41_7_1) w93 fun w94 =>
  St ⟨k2, 8, none⟩ (.int .i64 n41_8_1) w94 fun w95 =>
  St ⟨k2, 9, none⟩ (.int .i64 n41_9_1) w95 fun w96 =>
  ∃ nr2_0_6 : Int, ∃ nr2_1_6 : Int, ∃ nr2_2_6 : Int, ∃ nr2_3_6 : Int, ∃ nr2_4_6 : Int, ∃ nr2_5_6 : Int, ∃ br2_6_6 : Bool, ∃ nr2_7_6 : Int, ∃ nr2_8_6 : Int, ∃ nr2_9_6 : Int, (w96.cell? ⟨k2, 0, none⟩ = some (.int .u64 nr2_0_6) ∧ w96.cell? ⟨k2, 1, none⟩ = some (.int .u64 nr2_1_6) ∧ w96.cell? ⟨k2, 2, none⟩ = some (.int .i64 nr2_2_6) ∧ w96.cell? ⟨k2, 3, none⟩ = some (.int .i64 nr2_3_6) ∧ w96.cell? ⟨k2, 4, none⟩ = some (.int .i64 nr2_4_6) ∧ w96.cell? ⟨k2, 5, none⟩ = some (.int .i64 nr2_5_6) ∧ w96.cell? ⟨k2, 6, none⟩ = some (.bool br2_6_6) ∧ w96.cell? ⟨k2, 7, none⟩ = some (.int .i64 nr2_7_6) ∧ w96.cell? ⟨k2, 8, none⟩ = some (.int .i64 nr2_8_6) ∧ w96.cell? ⟨k2, 9, none⟩ = some (.int .i64 nr2_9_6)) ∧
  R (.tuple #[.agg #[.int .u64 nr2_0_6, .int .u64 nr2_1_6, .int .i64 nr2_2_6, .int .i64 nr2_3_6, .int .i64 nr2_4_6, .int .i64 nr2_5_6, .bool br2_6_6, .int .i64 nr2_7_6, .int .i64 nr2_8_6, .int .i64 nr2_9_6], .int .i64 0]) w96) ∧
  (b20_1 = false →
  J [] w35)))) ∧
  (b15_1 = false →
  (b15_1 = true →
  ∃ n38_0_2 : Int, ∃ n38_1_2 : Int, ∃ n38_2_2 : Int, ∃ n38_3_2 : Int, ∃ n38_4_2 : Int, ∃ n38_5_2 : Int, ∃ b38_6_2 : Bool, ∃ n38_7_2 : Int, ∃ n38_8_2 : Int, ∃ n38_9_2 : Int, (w35.cell? ⟨k4, 0, none⟩ = some (.int .u64 n38_0_2) ∧ w35.cell? ⟨k4, 1, none⟩ = some (.int .u64 n38_1_2) ∧ w35.cell? ⟨k4, 2, none⟩ = some (.int .i64 n38_2_2) ∧ w35.cell? ⟨k4, 3, none⟩ = some (.int .i64 n38_3_2) ∧ w35.cell? ⟨k4, 4, none⟩ = some (.int .i64 n38_4_2) ∧ w35.cell? ⟨k4, 5, none⟩ = some (.int .i64 n38_5_2) ∧ w35.cell? ⟨k4, 6, none⟩ = some (.bool b38_6_2) ∧ w35.cell? ⟨k4, 7, none⟩ = some (.int .i64 n38_7_2) ∧ w35.cell? ⟨k4, 8, none⟩ = some (.int .i64 n38_8_2) ∧ w35.cell? ⟨k4, 9, none⟩ = some (.int .i64 n38_9_2)) ∧
  St ⟨k2, 0, none⟩ (.int .u64 n38_0_2) w35 fun w97 =>
  St ⟨k2, 1, none⟩ (.int .u64 n38_1_2) w97 fun w98 =>
  St ⟨k2, 2, none⟩ (.int .i64 n38_2_2) w98 fun w99 =>
  St ⟨k2, 3, none⟩ (.int .i64 n38_3_2) w99 fun w100 =>
  St ⟨k2, 4, none⟩ (.int .i64 n38_4_2) w100 fun w101 =>
  St ⟨k2, 5, none⟩ (.int .i64 n38_5_2) w101 fun w102 =>
  St ⟨k2, 6, none⟩ (.bool b38_6_2) w102 fun w103 =>
  St ⟨k2, 7, none⟩ (.int .i64 n38_7_2) w103 fun w104 =>
  St ⟨k2, 8, none⟩ (.int .i64 n38_8_2) w104 fun w105 =>
  St ⟨k2, 9, none⟩ (.int .i64 n38_9_2) w105 fun w106 =>
  ∃ nr2_0_7 : Int, ∃ nr2_1_7 : Int, ∃ nr2_2_7 : Int, ∃ nr2_3_7 : Int, ∃ nr2_4_7 : Int, ∃ nr2_5_7 : Int, ∃ br2_6_7 : Bool, ∃ nr2_7_7 : Int, ∃ nr2_8_7 : Int, ∃ nr2_9_7 : Int, (w106.cell? ⟨k2, 0, none⟩ = some (.int .u64 nr2_0_7) ∧ w106.cell? ⟨k2, 1, none⟩ = some (.int .u64 nr2_1_7) ∧ w106.cell? ⟨k2, 2, none⟩ = some (.int .i64 nr2_2_7) ∧ w106.cell? ⟨k2, 3, none⟩ = some (.int .i64 nr2_3_7) ∧ w106.cell? ⟨k2, 4, none⟩ = some (.int .i64 nr2_4_7) ∧ w106.cell? ⟨k2, 5, none⟩ = some (.int .i64 nr2_5_7) ∧ w106.cell? ⟨k2, 6, none⟩ = some (.bool br2_6_7) ∧ w106.cell? ⟨k2, 7, none⟩ = some (.int .i64 nr2_7_7) ∧ w106.cell? ⟨k2, 8, none⟩ = some (.int .i64 nr2_8_7) ∧ w106.cell? ⟨k2, 9, none⟩ = some (.int .i64 nr2_9_7)) ∧
  R (.tuple #[.agg #[.int .u64 nr2_0_7, .int .u64 nr2_1_7, .int .i64 nr2_2_7, .int .i64 nr2_3_7, .int .i64 nr2_4_7, .int .i64 nr2_5_7, .bool br2_6_7, .int .i64 nr2_7_7, .int .i64 nr2_8_7, .int .i64 nr2_9_7], .int .i64 0]) w106) ∧
  (b15_1 = false →
  (b20_1 = true →
  ∃ n41_0_2 : Int, ∃ n41_1_2 : Int, ∃ n41_2_2 : Int, ∃ n41_3_2 : Int, ∃ n41_4_2 : Int, ∃ n41_5_2 : Int, ∃ b41_6_2 : Bool, ∃ n41_7_2 : Int, ∃ n41_8_2 : Int, ∃ n41_9_2 : Int, (w35.cell? ⟨k6, 0, none⟩ = some (.int .u64 n41_0_2) ∧ w35.cell? ⟨k6, 1, none⟩ = some (.int .u64 n41_1_2) ∧ w35.cell? ⟨k6, 2, none⟩ = some (.int .i64 n41_2_2) ∧ w35.cell? ⟨k6, 3, none⟩ = some (.int .i64 n41_3_2) ∧ w35.cell? ⟨k6, 4, none⟩ = some (.int .i64 n41_4_2) ∧ w35.cell? ⟨k6, 5, none⟩ = some (.int .i64 n41_5_2) ∧ w35.cell? ⟨k6, 6, none⟩ = some (.bool b41_6_2) ∧ w35.cell? ⟨k6, 7, none⟩ = some (.int .i64 n41_7_2) ∧ w35.cell? ⟨k6, 8, none⟩ = some (.int .i64 n41_8_2) ∧ w35.cell? ⟨k6, 9, none⟩ = some (.int .i64 n41_9_2)) ∧
  St ⟨k2, 0, none⟩ (.int .u64 n41_0_2) w35 fun w107 =>
  St ⟨k2, 1, none⟩ (.int .u64 n41_1_2) w107 fun w108 =>
  St ⟨k2, 2, none⟩ (.int .i64 n41_2_2) w108 fun w109 =>
  St ⟨k2, 3, none⟩ (.int .i64 n41_3_2) w109 fun w110 =>
  St ⟨k2, 4, none⟩ (.int .i64 n41_4_2) w110 fun w111 =>
  St ⟨k2, 5, none⟩ (.int .i64 n41_5_2) w111 fun w112 =>
  St ⟨k2, 6, none⟩ (.bool b41_6_2) w112 fun w113 =>
  St ⟨k2, 7, none⟩ (.int .i64 n41_7_2) w113 fun w114 =>
  St ⟨k2, 8, none⟩ (.int .i64 n41_8_2) w114 fun w115 =>
  St ⟨k2, 9, none⟩ (.int .i64 n41_9_2) w115 fun w116 =>
  ∃ nr2_0_8 : Int, ∃ nr2_1_8 : Int, ∃ nr2_2_8 : Int, ∃ nr2_3_8 : Int, ∃ nr2_4_8 : Int, ∃ nr2_5_8 : Int, ∃ br2_6_8 : Bool, ∃ nr2_7_8 : Int, ∃ nr2_8_8 : Int, ∃ nr2_9_8 : Int, (w116.cell? ⟨k2, 0, none⟩ = some (.int .u64 nr2_0_8) ∧ w116.cell? ⟨k2, 1, none⟩ = some (.int .u64 nr2_1_8) ∧ w116.cell? ⟨k2, 2, none⟩ = some (.int .i64 nr2_2_8) ∧ w116.cell? ⟨k2, 3, none⟩ = some (.int .i64 nr2_3_8) ∧ w116.cell? ⟨k2, 4, none⟩ = some (.int .i64 nr2_4_8) ∧ w116.cell? ⟨k2, 5, none⟩ = some (.int .i64 nr2_5_8) ∧ w116.cell? ⟨k2, 6, none⟩ = some (.bool br2_6_8) ∧ w116.cell? ⟨k2, 7, none⟩ = some (.int .i64 nr2_7_8) ∧ w116.cell? ⟨k2, 8, none⟩ = some (.int .i64 nr2_8_8) ∧ w116.cell? ⟨k2, 9, none⟩ = some (.int .i64 nr2_9_8)) ∧
  R (.tuple #[.agg #[.int .u64 nr2_0_8, .int .u64 nr2_1_8, .int .i64 nr2_2_8, .int .i64 nr2_3_8, .int .i64 nr2_4_8, .int .i64 nr2_5_8, .bool br2_6_8, .int .i64 nr2_7_8, .int .i64 nr2_8_8, .int .i64 nr2_9_8], .int .i64 0]) w116) ∧
  (b20_1 = false →
  J [] w35))))
theorem revetmentref09_Load_eq (p0 : Option Addr) (w : World) (R : Value → World → Prop) : revetmentref09_Load p0 w R = fnP Try.prog Try.f68 (.s .o (.s .o (.s .o (.s .o (.j [] .o .o))))) [.pointer p0] w R := by kernel_rfl
theorem revetmentref09_Load_calls {p0 : Option Addr} {w : World} {R : Value → World → Prop} (h : revetmentref09_Load p0 w R) : Calls Try.prog 68 #[.pointer p0] w fun e w1 => ∃ v, e = .returned v ∧ R v w1 := fnP_calls callable Try.func68 (revetmentref09_Load_eq p0 w R ▸ h)

/-- revetment/revetmentref09.One -/
def revetmentref09_One (p0 : Option Addr) (n1 : Int) (w : World) (R : Value → World → Prop) : Prop :=
  Alloc #[.int .u64 0, .int .u64 0, .int .i64 0, .int .i64 0, .int .i64 0, .int .i64 0, .bool false, .int .i64 0, .int .i64 0, .int .i64 0] 76 w fun k4 w1 =>
  Calls Try.prog 55 #[.pointer p0, .int .i64 n1] w1 fun e w2 => ∃ s13_0 : ByteArray, ∃ n13_1 : Int, e = .returned (.tuple #[.string s13_0, .int .i64 n13_1]) ∧
  ((n13_1 != 0) = true →
  St ⟨k4, 0, none⟩ (.int .u64 0) w2 fun w3 =>
  St ⟨k4, 1, none⟩ (.int .u64 0) w3 fun w4 =>
  St ⟨k4, 2, none⟩ (.int .i64 0) w4 fun w5 =>
  St ⟨k4, 3, none⟩ (.int .i64 0) w5 fun w6 =>
  St ⟨k4, 4, none⟩ (.int .i64 0) w6 fun w7 =>
  St ⟨k4, 5, none⟩ (.int .i64 0) w7 fun w8 =>
  St ⟨k4, 6, none⟩ (.bool false) w8 fun w9 =>
  St ⟨k4, 7, none⟩ (.int .i64 0) w9 fun w10 =>
  St ⟨k4, 8, none⟩ (.int .i64 0) w10 fun w11 =>
  St ⟨k4, 9, none⟩ (.int .i64 0) w11 fun w12 =>
  ∃ nr4_0 : Int, ∃ nr4_1 : Int, ∃ nr4_2 : Int, ∃ nr4_3 : Int, ∃ nr4_4 : Int, ∃ nr4_5 : Int, ∃ br4_6 : Bool, ∃ nr4_7 : Int, ∃ nr4_8 : Int, ∃ nr4_9 : Int, (w12.cell? ⟨k4, 0, none⟩ = some (.int .u64 nr4_0) ∧ w12.cell? ⟨k4, 1, none⟩ = some (.int .u64 nr4_1) ∧ w12.cell? ⟨k4, 2, none⟩ = some (.int .i64 nr4_2) ∧ w12.cell? ⟨k4, 3, none⟩ = some (.int .i64 nr4_3) ∧ w12.cell? ⟨k4, 4, none⟩ = some (.int .i64 nr4_4) ∧ w12.cell? ⟨k4, 5, none⟩ = some (.int .i64 nr4_5) ∧ w12.cell? ⟨k4, 6, none⟩ = some (.bool br4_6) ∧ w12.cell? ⟨k4, 7, none⟩ = some (.int .i64 nr4_7) ∧ w12.cell? ⟨k4, 8, none⟩ = some (.int .i64 nr4_8) ∧ w12.cell? ⟨k4, 9, none⟩ = some (.int .i64 nr4_9)) ∧
  R (.tuple #[.agg #[.int .u64 nr4_0, .int .u64 nr4_1, .int .i64 nr4_2, .int .i64 nr4_3, .int .i64 nr4_4, .int .i64 nr4_5, .bool br4_6, .int .i64 nr4_7, .int .i64 nr4_8, .int .i64 nr4_9], .bool false]) w12) ∧
  ((n13_1 != 0) = false →
  Calls Try.prog 85 #[.string s13_0] w2 fun e_1 w13 => ∃ n21_0_0 : Int, ∃ n21_0_1 : Int, ∃ n21_0_2 : Int, ∃ n21_0_3 : Int, ∃ n21_0_4 : Int, ∃ n21_0_5 : Int, ∃ b21_0_6 : Bool, ∃ n21_0_7 : Int, ∃ n21_0_8 : Int, ∃ n21_0_9 : Int, ∃ n21_1 : Int, e_1 = .returned (.tuple #[.agg #[.int .u64 n21_0_0, .int .u64 n21_0_1, .int .i64 n21_0_2, .int .i64 n21_0_3, .int .i64 n21_0_4, .int .i64 n21_0_5, .bool b21_0_6, .int .i64 n21_0_7, .int .i64 n21_0_8, .int .i64 n21_0_9], .int .i64 n21_1]) ∧
  Alloc #[.int .u64 0, .int .u64 0, .int .i64 0, .int .i64 0, .int .i64 0, .int .i64 0, .bool false, .int .i64 0, .int .i64 0, .int .i64 0] 76 w13 fun k8 w14 =>
  St ⟨k8, 0, none⟩ (.int .u64 n21_0_0) w14 fun w15 =>
  St ⟨k8, 1, none⟩ (.int .u64 n21_0_1) w15 fun w16 =>
  St ⟨k8, 2, none⟩ (.int .i64 n21_0_2) w16 fun w17 =>
  St ⟨k8, 3, none⟩ (.int .i64 n21_0_3) w17 fun w18 =>
  St ⟨k8, 4, none⟩ (.int .i64 n21_0_4) w18 fun w19 =>
  St ⟨k8, 5, none⟩ (.int .i64 n21_0_5) w19 fun w20 =>
  St ⟨k8, 6, none⟩ (.bool b21_0_6) w20 fun w21 =>
  St ⟨k8, 7, none⟩ (.int .i64 n21_0_7) w21 fun w22 =>
  St ⟨k8, 8, none⟩ (.int .i64 n21_0_8) w22 fun w23 =>
  St ⟨k8, 9, none⟩ (.int .i64 n21_0_9) w23 fun w24 =>
  ((n21_1 != 0) = true →
  St ⟨k4, 0, none⟩ (.int .u64 0) w24 fun w25 =>
  St ⟨k4, 1, none⟩ (.int .u64 0) w25 fun w26 =>
  St ⟨k4, 2, none⟩ (.int .i64 0) w26 fun w27 =>
  St ⟨k4, 3, none⟩ (.int .i64 0) w27 fun w28 =>
  St ⟨k4, 4, none⟩ (.int .i64 0) w28 fun w29 =>
  St ⟨k4, 5, none⟩ (.int .i64 0) w29 fun w30 =>
  St ⟨k4, 6, none⟩ (.bool false) w30 fun w31 =>
  St ⟨k4, 7, none⟩ (.int .i64 0) w31 fun w32 =>
  St ⟨k4, 8, none⟩ (.int .i64 0) w32 fun w33 =>
  St ⟨k4, 9, none⟩ (.int .i64 0) w33 fun w34 =>
  ∃ nr4_0_1 : Int, ∃ nr4_1_1 : Int, ∃ nr4_2_1 : Int, ∃ nr4_3_1 : Int, ∃ nr4_4_1 : Int, ∃ nr4_5_1 : Int, ∃ br4_6_1 : Bool, ∃ nr4_7_1 : Int, ∃ nr4_8_1 : Int, ∃ nr4_9_1 : Int, (w34.cell? ⟨k4, 0, none⟩ = some (.int .u64 nr4_0_1) ∧ w34.cell? ⟨k4, 1, none⟩ = some (.int .u64 nr4_1_1) ∧ w34.cell? ⟨k4, 2, none⟩ = some (.int .i64 nr4_2_1) ∧ w34.cell? ⟨k4, 3, none⟩ = some (.int .i64 nr4_3_1) ∧ w34.cell? ⟨k4, 4, none⟩ = some (.int .i64 nr4_4_1) ∧ w34.cell? ⟨k4, 5, none⟩ = some (.int .i64 nr4_5_1) ∧ w34.cell? ⟨k4, 6, none⟩ = some (.bool br4_6_1) ∧ w34.cell? ⟨k4, 7, none⟩ = some (.int .i64 nr4_7_1) ∧ w34.cell? ⟨k4, 8, none⟩ = some (.int .i64 nr4_8_1) ∧ w34.cell? ⟨k4, 9, none⟩ = some (.int .i64 nr4_9_1)) ∧
  R (.tuple #[.agg #[.int .u64 nr4_0_1, .int .u64 nr4_1_1, .int .i64 nr4_2_1, .int .i64 nr4_3_1, .int .i64 nr4_4_1, .int .i64 nr4_5_1, .bool br4_6_1, .int .i64 nr4_7_1, .int .i64 nr4_8_1, .int .i64 nr4_9_1], .bool false]) w34) ∧
  ((n21_1 != 0) = false →
  ∃ n27_0 : Int, ∃ n27_1 : Int, ∃ n27_2 : Int, ∃ n27_3 : Int, ∃ n27_4 : Int, ∃ n27_5 : Int, ∃ b27_6 : Bool, ∃ n27_7 : Int, ∃ n27_8 : Int, ∃ n27_9 : Int, (w24.cell? ⟨k8, 0, none⟩ = some (.int .u64 n27_0) ∧ w24.cell? ⟨k8, 1, none⟩ = some (.int .u64 n27_1) ∧ w24.cell? ⟨k8, 2, none⟩ = some (.int .i64 n27_2) ∧ w24.cell? ⟨k8, 3, none⟩ = some (.int .i64 n27_3) ∧ w24.cell? ⟨k8, 4, none⟩ = some (.int .i64 n27_4) ∧ w24.cell? ⟨k8, 5, none⟩ = some (.int .i64 n27_5) ∧ w24.cell? ⟨k8, 6, none⟩ = some (.bool b27_6) ∧ w24.cell? ⟨k8, 7, none⟩ = some (.int .i64 n27_7) ∧ w24.cell? ⟨k8, 8, none⟩ = some (.int .i64 n27_8) ∧ w24.cell? ⟨k8, 9, none⟩ = some (.int .i64 n27_9)) ∧
  St ⟨k4, 0, none⟩ (.int .u64 n27_0) w24 fun w35 =>
  St ⟨k4, 1, none⟩ (.int .u64 n27_1) w35 fun w36 =>
  St ⟨k4, 2, none⟩ (.int .i64 n27_2) w36 fun w37 =>
  St ⟨k4, 3, none⟩ (.int .i64 n27_3) w37 fun w38 =>
  St ⟨k4, 4, none⟩ (.int .i64 n27_4) w38 fun w39 =>
  St ⟨k4, 5, none⟩ (.int .i64 n27_5) w39 fun w40 =>
  St ⟨k4, 6, none⟩ (.bool b27_6) w40 fun w41 =>
  St ⟨k4, 7, none⟩ (.int .i64 n27_7) w41 fun w42 =>
  St ⟨k4, 8, none⟩ (.int .i64 n27_8) w42 fun w43 =>
  St ⟨k4, 9, none⟩ (.int .i64 n27_9) w43 fun w44 =>
  ∃ nr4_0_2 : Int, ∃ nr4_1_2 : Int, ∃ nr4_2_2 : Int, ∃ nr4_3_2 : Int, ∃ nr4_4_2 : Int, ∃ nr4_5_2 : Int, ∃ br4_6_2 : Bool, ∃ nr4_7_2 : Int, ∃ nr4_8_2 : Int, ∃ nr4_9_2 : Int, (w44.cell? ⟨k4, 0, none⟩ = some (.int .u64 nr4_0_2) ∧ w44.cell? ⟨k4, 1, none⟩ = some (.int .u64 nr4_1_2) ∧ w44.cell? ⟨k4, 2, none⟩ = some (.int .i64 nr4_2_2) ∧ w44.cell? ⟨k4, 3, none⟩ = some (.int .i64 nr4_3_2) ∧ w44.cell? ⟨k4, 4, none⟩ = some (.int .i64 nr4_4_2) ∧ w44.cell? ⟨k4, 5, none⟩ = some (.int .i64 nr4_5_2) ∧ w44.cell? ⟨k4, 6, none⟩ = some (.bool br4_6_2) ∧ w44.cell? ⟨k4, 7, none⟩ = some (.int .i64 nr4_7_2) ∧ w44.cell? ⟨k4, 8, none⟩ = some (.int .i64 nr4_8_2) ∧ w44.cell? ⟨k4, 9, none⟩ = some (.int .i64 nr4_9_2)) ∧
  R (.tuple #[.agg #[.int .u64 nr4_0_2, .int .u64 nr4_1_2, .int .i64 nr4_2_2, .int .i64 nr4_3_2, .int .i64 nr4_4_2, .int .i64 nr4_5_2, .bool br4_6_2, .int .i64 nr4_7_2, .int .i64 nr4_8_2, .int .i64 nr4_9_2], .bool true]) w44))
theorem revetmentref09_One_eq (p0 : Option Addr) (n1 : Int) (w : World) (R : Value → World → Prop) : revetmentref09_One p0 n1 w R = fnP Try.prog Try.f69 .o [.pointer p0, .int .i64 n1] w R := by kernel_rfl
theorem revetmentref09_One_calls {p0 : Option Addr} {n1 : Int} {w : World} {R : Value → World → Prop} (h : revetmentref09_One p0 n1 w R) : Calls Try.prog 69 #[.pointer p0, .int .i64 n1] w fun e w1 => ∃ v, e = .returned v ∧ R v w1 := fnP_calls callable Try.func69 (revetmentref09_One_eq p0 n1 w R ▸ h)

/-- revetment/revetmentref08.May -/
def revetmentref08_May (n0_0 : Int) (n0_1 : Int) (n0_2 : Int) (n0_3 : Int) (n0_4 : Int) (n0_5 : Int) (b0_6 : Bool) (n0_7 : Int) (n0_8 : Int) (n0_9 : Int) (w : World) (R : Value → World → Prop) : Prop :=
  Alloc #[.int .u64 n0_0, .int .u64 n0_1, .int .i64 n0_2, .int .i64 n0_3, .int .i64 n0_4, .int .i64 n0_5, .bool b0_6, .int .i64 n0_7, .int .i64 n0_8, .int .i64 n0_9] 76 w fun k1 w1 =>
  Join (fun vs w2 => vs = [] ∧
  Join (fun vs_1 w3 => vs_1 = [] ∧
  ∃ n55 : Int, w3.cell? ⟨k1, 7, none⟩ = some (.int .i64 n55) ∧
  ((decide (n55 ≥ 0)) = true →
  ∃ n59 : Int, w3.cell? ⟨k1, 7, none⟩ = some (.int .i64 n59) ∧
  ∃ n62 : Int, w3.cell? ⟨k1, 5, none⟩ = some (.int .i64 n62) ∧
  ((decide (n59 ≤ n62)) = true →
  ∃ n67 : Int, w3.cell? ⟨k1, 9, none⟩ = some (.int .i64 n67) ∧
  ((decide (n67 ≥ 0)) = true →
  ∃ n72 : Int, w3.cell? ⟨k1, 9, none⟩ = some (.int .i64 n72) ∧
  ∃ n75 : Int, w3.cell? ⟨k1, 5, none⟩ = some (.int .i64 n75) ∧
  ((decide (n72 ≤ n75)) = true →
  ∃ n80 : Int, w3.cell? ⟨k1, 8, none⟩ = some (.int .i64 n80) ∧
  ((n80 != 0) = true →
  R (.bool true) w3) ∧
  ((n80 != 0) = false →
  ∃ n84 : Int, w3.cell? ⟨k1, 9, none⟩ = some (.int .i64 n84) ∧
  R (.bool (n84 == 0)) w3)) ∧
  ((decide (n72 ≤ n75)) = false →
  R (.bool false) w3)) ∧
  ((decide (n67 ≥ 0)) = false →
  R (.bool false) w3)) ∧
  ((decide (n59 ≤ n62)) = false →
  R (.bool false) w3)) ∧
  ((decide (n55 ≥ 0)) = false →
  R (.bool false) w3)) fun J_1 =>
  ∃ n31 : Int, w2.cell? ⟨k1, 2, none⟩ = some (.int .i64 n31) ∧
  ((n31 != 254) = true →
  ∃ n35 : Int, w2.cell? ⟨k1, 2, none⟩ = some (.int .i64 n35) ∧
  ((n35 != 255) = true →
  ∃ n40 : Int, w2.cell? ⟨k1, 2, none⟩ = some (.int .i64 n40) ∧
  ((decide (n40 < 0)) = true →
  R (.bool false) w2) ∧
  ((decide (n40 < 0)) = false →
  ∃ n44 : Int, w2.cell? ⟨k1, 2, none⟩ = some (.int .i64 n44) ∧
  ∃ n47 : Int, w2.cell? ⟨k1, 3, none⟩ = some (.int .i64 n47) ∧
  ∃ n49 : Int, w2.cell? ⟨k1, 8, none⟩ = some (.int .i64 n49) ∧
  ∃ n50 : Int, ∃ w4, (builtin .max #[3, 3] 3 #[false, false] #[.int .i64 n47, .int .i64 n49]).run Try.prog w2 = .ok (.value (.int .i64 n50)) w4 ∧
  ((decide (n44 ≥ n50)) = true →
  R (.bool false) w4) ∧
  ((decide (n44 ≥ n50)) = false →
  J_1 [] w4))) ∧
  ((n35 != 255) = false →
  J_1 [] w2)) ∧
  ((n31 != 254) = false →
  J_1 [] w2)) fun J =>
  ∃ n4 : Int, w1.cell? ⟨k1, 0, none⟩ = some (.int .u64 n4) ∧
  ((n4 == 0) = true →
  R (.bool false) w1) ∧
  ((n4 == 0) = false →
  ∃ n8_0 : Int, ∃ n8_1 : Int, ∃ n8_2 : Int, (w1.cell? ⟨k1, 3, none⟩ = some (.int .i64 n8_0) ∧ w1.cell? ⟨k1, 4, none⟩ = some (.int .i64 n8_1) ∧ w1.cell? ⟨k1, 5, none⟩ = some (.int .i64 n8_2)) ∧
  Calls Try.prog 91 #[.agg #[.int .i64 n8_0, .int .i64 n8_1, .int .i64 n8_2]] w1 fun e w5 => ∃ n9 : Int, e = .returned (.int .i64 n9) ∧
  ((n9 != 0) = true →
  R (.bool false) w5) ∧
  ((n9 != 0) = false →
  ∃ n14 : Int, w5.cell? ⟨k1, 8, none⟩ = some (.int .i64 n14) ∧
  ((n14 != 0) = true →
  ∃ n18 : Int, w5.cell? ⟨k1, 8, none⟩ = some (.int .i64 n18) ∧
  ∃ n21 : Int, w5.cell? ⟨k1, 3, none⟩ = some (.int .i64 n21) ∧
  ((decide (n18 ≤ n21)) = true →
  R (.bool false) w5) ∧
  ((decide (n18 ≤ n21)) = false →
  ∃ n25 : Int, w5.cell? ⟨k1, 8, none⟩ = some (.int .i64 n25) ∧
  ((decide (n25 > 10)) = true →
  R (.bool false) w5) ∧
  ((decide (n25 > 10)) = false →
  J [] w5))) ∧
  ((n14 != 0) = false →
  J [] w5)))
theorem revetmentref08_May_eq (n0_0 : Int) (n0_1 : Int) (n0_2 : Int) (n0_3 : Int) (n0_4 : Int) (n0_5 : Int) (b0_6 : Bool) (n0_7 : Int) (n0_8 : Int) (n0_9 : Int) (w : World) (R : Value → World → Prop) : revetmentref08_May n0_0 n0_1 n0_2 n0_3 n0_4 n0_5 b0_6 n0_7 n0_8 n0_9 w R = fnP Try.prog Try.f81 (.s .o (.j [] .o (.j [] .o .o))) [.agg #[.int .u64 n0_0, .int .u64 n0_1, .int .i64 n0_2, .int .i64 n0_3, .int .i64 n0_4, .int .i64 n0_5, .bool b0_6, .int .i64 n0_7, .int .i64 n0_8, .int .i64 n0_9]] w R := by kernel_rfl
theorem revetmentref08_May_calls {n0_0 : Int} {n0_1 : Int} {n0_2 : Int} {n0_3 : Int} {n0_4 : Int} {n0_5 : Int} {b0_6 : Bool} {n0_7 : Int} {n0_8 : Int} {n0_9 : Int} {w : World} {R : Value → World → Prop} (h : revetmentref08_May n0_0 n0_1 n0_2 n0_3 n0_4 n0_5 b0_6 n0_7 n0_8 n0_9 w R) : Calls Try.prog 81 #[.agg #[.int .u64 n0_0, .int .u64 n0_1, .int .i64 n0_2, .int .i64 n0_3, .int .i64 n0_4, .int .i64 n0_5, .bool b0_6, .int .i64 n0_7, .int .i64 n0_8, .int .i64 n0_9]] w fun e w1 => ∃ v, e = .returned v ∧ R v w1 := fnP_calls callable Try.func81 (revetmentref08_May_eq n0_0 n0_1 n0_2 n0_3 n0_4 n0_5 b0_6 n0_7 n0_8 n0_9 w R ▸ h)

/-- revetment/revetmentref03.Encode -/
def revetmentref03_Encode (p0 : Option Addr) (l0 c0 : Nat) (p1 : Option Addr) (l1 c1 : Nat) (w : World) (R : Value → World → Prop) : Prop :=
  Calls Try.prog 92 #[.slice p1 l1 c1] w fun e w1 => ∃ n13_0 : Int, ∃ n13_1 : Int, e = .returned (.tuple #[.int .i64 n13_0, .int .i64 n13_1]) ∧
  ((n13_1 != 0) = true →
  R (.tuple #[.string (ByteArray.mk #[]), .int .i64 n13_1]) w1) ∧
  ((n13_1 != 0) = false →
  (((l0 : Int) != (l1 : Int)) = true →
  R (.tuple #[.string (ByteArray.mk #[]), .int .i64 1]) w1) ∧
  (((l0 : Int) != (l1 : Int)) = false →
  Alloc #[] 5 w1 fun k24 w2 =>
  LoopP (fun I => I [.slice (some ⟨k24, 0, none⟩) 0 0, .int .i64 0] w2) fun K vs w3 => ∃ (p8 : Option Addr) (l8 c8 : Nat), ∃ n9 : Int, vs = [.slice p8 l8 c8, .int .i64 n9] ∧
  ((decide (n9 < (l0 : Int))) = true →
  ∃ D : World → Prop, D w3.drew ∧
  ∃ a33 : Addr, p0 = some a33 ∧ (0 : Int) ≤ n9 ∧ n9 < (l0 : Int) ∧
  ∃ n34 : Int, (∀ w, D w → w.cell? (Addr.add a33 (n9.toNat * 1)) = some (.int .u64 n34)) ∧
  ∃ a37 : Addr, p1 = some a37 ∧ (0 : Int) ≤ n9 ∧ n9 < (l1 : Int) ∧
  ∃ n38 : Int, (∀ w, D w → w.cell? (Addr.add a37 (n9.toNat * 1)) = some (.int .i64 n38)) ∧
  Calls Try.prog 93 #[.int .u64 n34, .int .i64 n38] w3.drew fun e_1 w4 => ∃ b39 : Bool, e_1 = .returned (.bool b39) ∧
  D w4 ∧
  ((!b39) = true →
  R (.tuple #[.string (ByteArray.mk #[]), .int .i64 30]) w4) ∧
  ((!b39) = false →
  LoopP (fun I_1 => I_1 [.slice p8 l8 c8, .int .i64 0] w4) fun K_1 vs_1 w5 => ∃ (p8_1 : Option Addr) (l8_1 c8_1 : Nat), ∃ n10 : Int, vs_1 = [.slice p8_1 l8_1 c8_1, .int .i64 n10] ∧
  ∃ a44 : Addr, p1 = some a44 ∧ (0 : Int) ≤ n9 ∧ n9 < (l1 : Int) ∧
  ∃ n45 : Int, w5.cell? (Addr.add a44 (n9.toNat * 1)) = some (.int .i64 n45) ∧
  ((decide (n10 < n45)) = true →
  ∃ a52 : Addr, p0 = some a52 ∧ (0 : Int) ≤ n9 ∧ n9 < (l0 : Int) ∧
  ∃ n53 : Int, w5.cell? (Addr.add a52 (n9.toNat * 1)) = some (.int .u64 n53) ∧
  (0 : Int) ≤ (IntKind.i64.wrap (8 * n10)) ∧
  Alloc #[.int .u8 (IntKind.u8.wrap (Int.fdiv n53 (2 ^ (min (IntKind.i64.wrap (8 * n10)).toNat 64))))] 5 w5 fun k58 w6 =>
  ∃ (p59 : Option Addr) (l59 c59 : Nat), ∃ w7, (builtin .append #[30, 30] 30 #[false, false] #[.slice p8_1 l8_1 c8_1, .slice (some ⟨k58, 0, none⟩) 1 1]).run Try.prog w6 = .ok (.value (.slice p59 l59 c59)) w7 ∧
  K_1 [.slice p59 l59 c59, .int .i64 (IntKind.i64.wrap (n10 + 1))] w7) ∧
  ((decide (n10 < n45)) = false →
  K [.slice p8_1 l8_1 c8_1, .int .i64 (IntKind.i64.wrap (n9 + 1))] w5))) ∧
  ((decide (n9 < (l0 : Int))) = false →
  ∃ s61 : ByteArray, ∃ w8, (convert 30 9 (.slice p8 l8 c8)).run Try.prog w3 = .ok (.string s61) w8 ∧
  R (.tuple #[.string s61, .int .i64 0]) w8)))
theorem revetmentref03_Encode_eq (p0 : Option Addr) (l0 c0 : Nat) (p1 : Option Addr) (l1 c1 : Nat) (w : World) (R : Value → World → Prop) : revetmentref03_Encode p0 l0 c0 p1 l1 c1 w R = fnP Try.prog Try.f82 (.s .o (.s .o (.s .o (.s .o (.s .o (.s (.s .o (.b (.l [(8, .one .slice), (9, .one (.int .i64))] (.s .o (.s (.b (.s .o (.s .o (.b (.l [(8, .one .slice), (10, .one (.int .i64))] .o))))) .o))))) .o)))))) [.slice p0 l0 c0, .slice p1 l1 c1] w R := by kernel_rfl
theorem revetmentref03_Encode_calls {p0 : Option Addr} {l0 c0 : Nat} {p1 : Option Addr} {l1 c1 : Nat} {w : World} {R : Value → World → Prop} (h : revetmentref03_Encode p0 l0 c0 p1 l1 c1 w R) : Calls Try.prog 82 #[.slice p0 l0 c0, .slice p1 l1 c1] w fun e w1 => ∃ v, e = .returned v ∧ R v w1 := fnP_calls callable Try.func82 (revetmentref03_Encode_eq p0 l0 c0 p1 l1 c1 w R ▸ h)

/-- revetment/revetmentref08.widths -/
def revetmentref08_widths (w : World) (R : Value → World → Prop) : Prop :=
  Alloc #[.int .i64 4, .int .i64 8, .int .i64 8, .int .i64 1, .int .i64 1, .int .i64 1, .int .i64 2, .int .i64 1, .int .i64 2, .int .i64 1, .int .i64 2] 3 w fun k1 w1 =>
  R (.slice (some ⟨k1, 0, none⟩) 11 11) w1
theorem revetmentref08_widths_eq (w : World) (R : Value → World → Prop) : revetmentref08_widths w R = fnP Try.prog Try.f83 .o [] w R := by kernel_rfl
theorem revetmentref08_widths_calls {w : World} {R : Value → World → Prop} (h : revetmentref08_widths w R) : Calls Try.prog 83 #[] w fun e w1 => ∃ v, e = .returned v ∧ R v w1 := fnP_calls callable Try.func83 (revetmentref08_widths_eq w R ▸ h)

/-- revetment/revetmentref02.Seal -/
def revetmentref02_Seal (s0 : ByteArray) (n1 : Int) (w : World) (R : Value → World → Prop) : Prop :=
  ((decide (n1 < 4)) = true →
  R (.tuple #[.string (ByteArray.mk #[]), .bool false]) w) ∧
  ((decide (n1 < 4)) = false →
  ((decide (n1 > 4096)) = true →
  R (.tuple #[.string (ByteArray.mk #[]), .bool false]) w) ∧
  ((decide (n1 > 4096)) = false →
  ((decide ((s0.size : Int) > (IntKind.i64.wrap (n1 - 4)))) = true →
  R (.tuple #[.string (ByteArray.mk #[]), .bool false]) w) ∧
  ((decide ((s0.size : Int) > (IntKind.i64.wrap (n1 - 4)))) = false →
  LoopP (fun I => I [.string s0] w) fun K vs w1 => ∃ s6 : ByteArray, vs = [.string s6] ∧
  ((decide ((s6.size : Int) < (IntKind.i64.wrap (n1 - 4)))) = true →
  ((s6.size + (ByteArray.mk #[0]).size : Nat) : Int) ≤ 9223372036854775807 ∧
  K [.string (s6 ++ (ByteArray.mk #[0]))] w1) ∧
  ((decide ((s6.size : Int) < (IntKind.i64.wrap (n1 - 4)))) = false →
  Calls Try.prog 95 #[.string s6] w1 fun e w2 => ∃ n30 : Int, e = .returned (.int .u32 n30) ∧
  Calls Try.prog 94 #[.int .u32 n30] w2 fun e_1 w3 => ∃ s31 : ByteArray, e_1 = .returned (.string s31) ∧
  ((s6.size + s31.size : Nat) : Int) ≤ 9223372036854775807 ∧
  R (.tuple #[.string (s6 ++ s31), .bool true]) w3))))
theorem revetmentref02_Seal_eq (s0 : ByteArray) (n1 : Int) (w : World) (R : Value → World → Prop) : revetmentref02_Seal s0 n1 w R = fnP Try.prog Try.f84 (.s .o (.s .o (.s .o (.s (.b (.l [(6, .one .str)] .o)) .o)))) [.string s0, .int .i64 n1] w R := by kernel_rfl
theorem revetmentref02_Seal_calls {s0 : ByteArray} {n1 : Int} {w : World} {R : Value → World → Prop} (h : revetmentref02_Seal s0 n1 w R) : Calls Try.prog 84 #[.string s0, .int .i64 n1] w fun e w1 => ∃ v, e = .returned v ∧ R v w1 := fnP_calls callable Try.func84 (revetmentref02_Seal_eq s0 n1 w R ▸ h)

/-- revetment/revetmentref08.Decode -/
def revetmentref08_Decode (s0 : ByteArray) (w : World) (R : Value → World → Prop) : Prop :=
  Alloc #[.int .u64 0, .int .u64 0, .int .i64 0, .int .i64 0, .int .i64 0, .int .i64 0, .bool false, .int .i64 0, .int .i64 0, .int .i64 0] 76 w fun k2 w1 =>
  (((s0.size : Int) != 64) = true →
  St ⟨k2, 0, none⟩ (.int .u64 0) w1 fun w2 =>
  St ⟨k2, 1, none⟩ (.int .u64 0) w2 fun w3 =>
  St ⟨k2, 2, none⟩ (.int .i64 0) w3 fun w4 =>
  St ⟨k2, 3, none⟩ (.int .i64 0) w4 fun w5 =>
  St ⟨k2, 4, none⟩ (.int .i64 0) w5 fun w6 =>
  St ⟨k2, 5, none⟩ (.int .i64 0) w6 fun w7 =>
  St ⟨k2, 6, none⟩ (.bool false) w7 fun w8 =>
  St ⟨k2, 7, none⟩ (.int .i64 0) w8 fun w9 =>
  St ⟨k2, 8, none⟩ (.int .i64 0) w9 fun w10 =>
  St ⟨k2, 9, none⟩ (.int .i64 0) w10 fun w11 =>
  ∃ nr2_0 : Int, ∃ nr2_1 : Int, ∃ nr2_2 : Int, ∃ nr2_3 : Int, ∃ nr2_4 : Int, ∃ nr2_5 : Int, ∃ br2_6 : Bool, ∃ nr2_7 : Int, ∃ nr2_8 : Int, ∃ nr2_9 : Int, (w11.cell? ⟨k2, 0, none⟩ = some (.int .u64 nr2_0) ∧ w11.cell? ⟨k2, 1, none⟩ = some (.int .u64 nr2_1) ∧ w11.cell? ⟨k2, 2, none⟩ = some (.int .i64 nr2_2) ∧ w11.cell? ⟨k2, 3, none⟩ = some (.int .i64 nr2_3) ∧ w11.cell? ⟨k2, 4, none⟩ = some (.int .i64 nr2_4) ∧ w11.cell? ⟨k2, 5, none⟩ = some (.int .i64 nr2_5) ∧ w11.cell? ⟨k2, 6, none⟩ = some (.bool br2_6) ∧ w11.cell? ⟨k2, 7, none⟩ = some (.int .i64 nr2_7) ∧ w11.cell? ⟨k2, 8, none⟩ = some (.int .i64 nr2_8) ∧ w11.cell? ⟨k2, 9, none⟩ = some (.int .i64 nr2_9)) ∧
  R (.tuple #[.agg #[.int .u64 nr2_0, .int .u64 nr2_1, .int .i64 nr2_2, .int .i64 nr2_3, .int .i64 nr2_4, .int .i64 nr2_5, .bool br2_6, .int .i64 nr2_7, .int .i64 nr2_8, .int .i64 nr2_9], .int .i64 31]) w11) ∧
  (((s0.size : Int) != 64) = false →
  Calls Try.prog 96 #[.string s0] w1 fun e w12 => ∃ s17_0 : ByteArray, ∃ b17_1 : Bool, e = .returned (.tuple #[.string s17_0, .bool b17_1]) ∧
  ((!b17_1) = true →
  St ⟨k2, 0, none⟩ (.int .u64 0) w12 fun w13 =>
  St ⟨k2, 1, none⟩ (.int .u64 0) w13 fun w14 =>
  St ⟨k2, 2, none⟩ (.int .i64 0) w14 fun w15 =>
  St ⟨k2, 3, none⟩ (.int .i64 0) w15 fun w16 =>
  St ⟨k2, 4, none⟩ (.int .i64 0) w16 fun w17 =>
  St ⟨k2, 5, none⟩ (.int .i64 0) w17 fun w18 =>
  St ⟨k2, 6, none⟩ (.bool false) w18 fun w19 =>
  St ⟨k2, 7, none⟩ (.int .i64 0) w19 fun w20 =>
  St ⟨k2, 8, none⟩ (.int .i64 0) w20 fun w21 =>
  St ⟨k2, 9, none⟩ (.int .i64 0) w21 fun w22 =>
  ∃ nr2_0_1 : Int, ∃ nr2_1_1 : Int, ∃ nr2_2_1 : Int, ∃ nr2_3_1 : Int, ∃ nr2_4_1 : Int, ∃ nr2_5_1 : Int, ∃ br2_6_1 : Bool, ∃ nr2_7_1 : Int, ∃ nr2_8_1 : Int, ∃ nr2_9_1 : Int, (w22.cell? ⟨k2, 0, none⟩ = some (.int .u64 nr2_0_1) ∧ w22.cell? ⟨k2, 1, none⟩ = some (.int .u64 nr2_1_1) ∧ w22.cell? ⟨k2, 2, none⟩ = some (.int .i64 nr2_2_1) ∧ w22.cell? ⟨k2, 3, none⟩ = some (.int .i64 nr2_3_1) ∧ w22.cell? ⟨k2, 4, none⟩ = some (.int .i64 nr2_4_1) ∧ w22.cell? ⟨k2, 5, none⟩ = some (.int .i64 nr2_5_1) ∧ w22.cell? ⟨k2, 6, none⟩ = some (.bool br2_6_1) ∧ w22.cell? ⟨k2, 7, none⟩ = some (.int .i64 nr2_7_1) ∧ w22.cell? ⟨k2, 8, none⟩ = some (.int .i64 nr2_8_1) ∧ w22.cell? ⟨k2, 9, none⟩ = some (.int .i64 nr2_9_1)) ∧
  R (.tuple #[.agg #[.int .u64 nr2_0_1, .int .u64 nr2_1_1, .int .i64 nr2_2_1, .int .i64 nr2_3_1, .int .i64 nr2_4_1, .int .i64 nr2_5_1, .bool br2_6_1, .int .i64 nr2_7_1, .int .i64 nr2_8_1, .int .i64 nr2_9_1], .int .i64 80]) w22) ∧
  ((!b17_1) = false →
  ∃ D : World → Prop, D w12.drew ∧
  ∃ s25 : ByteArray, (∀ w, D w → (Instr.sliceAt 9 (.string s17_0) none (some (.int .i64 31)) none).run Try.prog w = .ok (.string s25) w) ∧
  Calls Try.prog 83 #[] w12.drew fun e_1 w23 => ∃ (p26 : Option Addr) (l26 c26 : Nat), e_1 = .returned (.slice p26 l26 c26) ∧
  D w23 ∧
  Calls Try.prog 97 #[.string s25, .slice p26 l26 c26] w23 fun e_2 w24 => ∃ (p27_0 : Option Addr) (l27_0 c27_0 : Nat), ∃ n27_1 : Int, e_2 = .returned (.tuple #[.slice p27_0 l27_0 c27_0, .int .i64 n27_1]) ∧
  D w24 ∧
  ∃ a31 : Addr, p27_0 = some a31 ∧ (0 : Int) ≤ 0 ∧ 0 < (l27_0 : Int) ∧
  ∃ n32 : Int, w24.cell? a31 = some (.int .u64 n32) ∧
  ((n32 != 827610706) = true →
  St ⟨k2, 0, none⟩ (.int .u64 0) w24 fun w25 =>
  St ⟨k2, 1, none⟩ (.int .u64 0) w25 fun w26 =>
  St ⟨k2, 2, none⟩ (.int .i64 0) w26 fun w27 =>
  St ⟨k2, 3, none⟩ (.int .i64 0) w27 fun w28 =>
  St ⟨k2, 4, none⟩ (.int .i64 0) w28 fun w29 =>
  St ⟨k2, 5, none⟩ (.int .i64 0) w29 fun w30 =>
  St ⟨k2, 6, none⟩ (.bool false) w30 fun w31 =>
  St ⟨k2, 7, none⟩ (.int .i64 0) w31 fun w32 =>
  St ⟨k2, 8, none⟩ (.int .i64 0) w32 fun w33 =>
  St ⟨k2, 9, none⟩ (.int .i64 0) w33 fun w34 =>
  ∃ nr2_0_2 : Int, ∃ nr2_1_2 : Int, ∃ nr2_2_2 : Int, ∃ nr2_3_2 : Int, ∃ nr2_4_2 : Int, ∃ nr2_5_2 : Int, ∃ br2_6_2 : Bool, ∃ nr2_7_2 : Int, ∃ nr2_8_2 : Int, ∃ nr2_9_2 : Int, (w34.cell? ⟨k2, 0, none⟩ = some (.int .u64 nr2_0_2) ∧ w34.cell? ⟨k2, 1, none⟩ = some (.int .u64 nr2_1_2) ∧ w34.cell? ⟨k2, 2, none⟩ = some (.int .i64 nr2_2_2) ∧ w34.cell? ⟨k2, 3, none⟩ = some (.int .i64 nr2_3_2) ∧ w34.cell? ⟨k2, 4, none⟩ = some (.int .i64 nr2_4_2) ∧ w34.cell? ⟨k2, 5, none⟩ = some (.int .i64 nr2_5_2) ∧ w34.cell? ⟨k2, 6, none⟩ = some (.bool br2_6_2) ∧ w34.cell? ⟨k2, 7, none⟩ = some (.int .i64 nr2_7_2) ∧ w34.cell? ⟨k2, 8, none⟩ = some (.int .i64 nr2_8_2) ∧ w34.cell? ⟨k2, 9, none⟩ = some (.int .i64 nr2_9_2)) ∧
  R (.tuple #[.agg #[.int .u64 nr2_0_2, .int .u64 nr2_1_2, .int .i64 nr2_2_2, .int .i64 nr2_3_2, .int .i64 nr2_4_2, .int .i64 nr2_5_2, .bool br2_6_2, .int .i64 nr2_7_2, .int .i64 nr2_8_2, .int .i64 nr2_9_2], .int .i64 81]) w34) ∧
  ((n32 != 827610706) = false →
  ∃ D_1 : World → Prop, D_1 w24.drew ∧
  ∃ a36 : Addr, p27_0 = some a36 ∧ (0 : Int) ≤ 1 ∧ 1 < (l27_0 : Int) ∧
  ∃ n37 : Int, (∀ w, D_1 w → w.cell? (a36.add 1) = some (.int .u64 n37)) ∧
  ∃ a39 : Addr, p27_0 = some a39 ∧ (0 : Int) ≤ 2 ∧ 2 < (l27_0 : Int) ∧
  ∃ n40 : Int, (∀ w, D_1 w → w.cell? (a39.add 2) = some (.int .u64 n40)) ∧
  ∃ a42 : Addr, p27_0 = some a42 ∧ (0 : Int) ≤ 3 ∧ 3 < (l27_0 : Int) ∧
  ∃ n43 : Int, (∀ w, D_1 w → w.cell? (a42.add 3) = some (.int .u64 n43)) ∧
  ∃ a46 : Addr, p27_0 = some a46 ∧ (0 : Int) ≤ 4 ∧ 4 < (l27_0 : Int) ∧
  ∃ n47 : Int, (∀ w, D_1 w → w.cell? (a46.add 4) = some (.int .u64 n47)) ∧
  ∃ a50 : Addr, p27_0 = some a50 ∧ (0 : Int) ≤ 5 ∧ 5 < (l27_0 : Int) ∧
  ∃ n51 : Int, (∀ w, D_1 w → w.cell? (a50.add 5) = some (.int .u64 n51)) ∧
  ∃ a54 : Addr, p27_0 = some a54 ∧ (0 : Int) ≤ 6 ∧ 6 < (l27_0 : Int) ∧
  ∃ n55 : Int, (∀ w, D_1 w → w.cell? (a54.add 6) = some (.int .u64 n55)) ∧
  ∃ a59 : Addr, p27_0 = some a59 ∧ (0 : Int) ≤ 7 ∧ 7 < (l27_0 : Int) ∧
  ∃ n60 : Int, (∀ w, D_1 w → w.cell? (a59.add 7) = some (.int .u64 n60)) ∧
  ∃ a63 : Addr, p27_0 = some a63 ∧ (0 : Int) ≤ 8 ∧ 8 < (l27_0 : Int) ∧
  ∃ n64 : Int, (∀ w, D_1 w → w.cell? (a63.add 8) = some (.int .u64 n64)) ∧
  ∃ a67 : Addr, p27_0 = some a67 ∧ (0 : Int) ≤ 9 ∧ 9 < (l27_0 : Int) ∧
  ∃ n68 : Int, (∀ w, D_1 w → w.cell? (a67.add 9) = some (.int .u64 n68)) ∧
  ∃ a71 : Addr, p27_0 = some a71 ∧ (0 : Int) ≤ 10 ∧ 10 < (l27_0 : Int) ∧
  ∃ n72 : Int, (∀ w, D_1 w → w.cell? (a71.add 10) = some (.int .u64 n72)) ∧
  Alloc #[.int .u64 0, .int .u64 0, .int .i64 0, .int .i64 0, .int .i64 0, .int .i64 0, .bool false, .int .i64 0, .int .i64 0, .int .i64 0] 76 w24.drew fun k8 w35 =>
  D_1 w35 ∧
  St ⟨k8, 0, none⟩ (.int .u64 n37) w35 fun w36 =>
  St ⟨k8, 1, none⟩ (.int .u64 n40) w36 fun w37 =>
  St ⟨k8, 2, none⟩ (.int .i64 (IntKind.i64.wrap n43)) w37 fun w38 =>
  St ⟨k8, 3, none⟩ (.int .i64 (IntKind.i64.wrap n47)) w38 fun w39 =>
  St ⟨k8, 4, none⟩ (.int .i64 (IntKind.i64.wrap n51)) w39 fun w40 =>
  St ⟨k8, 5, none⟩ (.int .i64 (IntKind.i64.wrap n55)) w40 fun w41 =>
  St ⟨k8, 6, none⟩ (.bool (n60 == 1)) w41 fun w42 =>
  St ⟨k8, 7, none⟩ (.int .i64 (IntKind.i64.wrap n64)) w42 fun w43 =>
  St ⟨k8, 8, none⟩ (.int .i64 (IntKind.i64.wrap n68)) w43 fun w44 =>
  St ⟨k8, 9, none⟩ (.int .i64 (IntKind.i64.wrap n72)) w44 fun w45 =>
  ∃ n76_0 : Int, ∃ n76_1 : Int, ∃ n76_2 : Int, ∃ n76_3 : Int, ∃ n76_4 : Int, ∃ n76_5 : Int, ∃ b76_6 : Bool, ∃ n76_7 : Int, ∃ n76_8 : Int, ∃ n76_9 : Int, (w45.cell? ⟨k8, 0, none⟩ = some (.int .u64 n76_0) ∧ w45.cell? ⟨k8, 1, none⟩ = some (.int .u64 n76_1) ∧ w45.cell? ⟨k8, 2, none⟩ = some (.int .i64 n76_2) ∧ w45.cell? ⟨k8, 3, none⟩ = some (.int .i64 n76_3) ∧ w45.cell? ⟨k8, 4, none⟩ = some (.int .i64 n76_4) ∧ w45.cell? ⟨k8, 5, none⟩ = some (.int .i64 n76_5) ∧ w45.cell? ⟨k8, 6, none⟩ = some (.bool b76_6) ∧ w45.cell? ⟨k8, 7, none⟩ = some (.int .i64 n76_7) ∧ w45.cell? ⟨k8, 8, none⟩ = some (.int .i64 n76_8) ∧ w45.cell? ⟨k8, 9, none⟩ = some (.int .i64 n76_9)) ∧
  Calls Try.prog 67 #[.agg #[.int .u64 n76_0, .int .u64 n76_1, .int .i64 n76_2, .int .i64 n76_3, .int .i64 n76_4, .int .i64 n76_5, .bool b76_6, .int .i64 n76_7, .int .i64 n76_8, .int .i64 n76_9]] w45 fun e_3 w46 => ∃ s77_0 : ByteArray, ∃ n77_1 : Int, e_3 = .returned (.tuple #[.string s77_0, .int .i64 n77_1]) ∧
  ((n77_1 != 0) = true →
  St ⟨k2, 0, none⟩ (.int .u64 0) w46 fun w47 =>
  St ⟨k2, 1, none⟩ (.int .u64 0) w47 fun w48 =>
  St ⟨k2, 2, none⟩ (.int .i64 0) w48 fun w49 =>
  St ⟨k2, 3, none⟩ (.int .i64 0) w49 fun w50 =>
  St ⟨k2, 4, none⟩ (.int .i64 0) w50 fun w51 =>
  St ⟨k2, 5, none⟩ (.int .i64 0) w51 fun w52 =>
  St ⟨k2, 6, none⟩ (.bool false) w52 fun w53 =>
  St ⟨k2, 7, none⟩ (.int .i64 0) w53 fun w54 =>
  St ⟨k2, 8, none⟩ (.int .i64 0) w54 fun w55 =>
  St ⟨k2, 9, none⟩ (.int .i64 0) w55 fun w56 =>
  ∃ nr2_0_3 : Int, ∃ nr2_1_3 : Int, ∃ nr2_2_3 : Int, ∃ nr2_3_3 : Int, ∃ nr2_4_3 : Int, ∃ nr2_5_3 : Int, ∃ br2_6_3 : Bool, ∃ nr2_7_3 : Int, ∃ nr2_8_3 : Int, ∃ nr2_9_3 : Int, (w56.cell? ⟨k2, 0, none⟩ = some (.int .u64 nr2_0_3) ∧ w56.cell? ⟨k2, 1, none⟩ = some (.int .u64 nr2_1_3) ∧ w56.cell? ⟨k2, 2, none⟩ = some (.int .i64 nr2_2_3) ∧ w56.cell? ⟨k2, 3, none⟩ = some (.int .i64 nr2_3_3) ∧ w56.cell? ⟨k2, 4, none⟩ = some (.int .i64 nr2_4_3) ∧ w56.cell? ⟨k2, 5, none⟩ = some (.int .i64 nr2_5_3) ∧ w56.cell? ⟨k2, 6, none⟩ = some (.bool br2_6_3) ∧ w56.cell? ⟨k2, 7, none⟩ = some (.int .i64 nr2_7_3) ∧ w56.cell? ⟨k2, 8, none⟩ = some (.int .i64 nr2_8_3) ∧ w56.cell? ⟨k2, 9, none⟩ = some (.int .i64 nr2_9_3)) ∧
  R (.tuple #[.agg #[.int .u64 nr2_0_3, .int .u64 nr2_1_3, .int .i64 nr2_2_3, .int .i64 nr2_3_3, .int .i64 nr2_4_3, .int .i64 nr2_5_3, .bool br2_6_3, .int .i64 nr2_7_3, .int .i64 nr2_8_3, .int .i64 nr2_9_3], .int .i64 1]) w56) ∧
  ((n77_1 != 0) = false →
  ((!(s77_0.toList == s0.toList)) = true →
  St ⟨k2, 0, none⟩ (.int .u64 0) w46 fun w57 =>
  St ⟨k2, 1, none⟩ (.int .u64 0) w57 fun w58 =>
  St ⟨k2, 2, none⟩ (.int .i64 0) w58 fun w59 =>
  St ⟨k2, 3, none⟩ (.int .i64 0) w59 fun w60 =>
  St ⟨k2, 4, none⟩ (.int .i64 0) w60 fun w61 =>
  St ⟨k2, 5, none⟩ (.int .i64 0) w61 fun w62 =>
  St ⟨k2, 6, none⟩ (.bool false) w62 fun w63 =>
  St ⟨k2, 7, none⟩ (.int .i64 0) w63 fun w64 =>
  St ⟨k2, 8, none⟩ (.int .i64 0) w64 fun w65 =>
  St ⟨k2, 9, none⟩ (.int .i64 0) w65 fun w66 =>
  ∃ nr2_0_4 : Int, ∃ nr2_1_4 : Int, ∃ nr2_2_4 : Int, ∃ nr2_3_4 : Int, ∃ nr2_4_4 : Int, ∃ nr2_5_4 : Int, ∃ br2_6_4 : Bool, ∃ nr2_7_4 : Int, ∃ nr2_8_4 : Int, ∃ nr2_9_4 : Int, (w66.cell? ⟨k2, 0, none⟩ = some (.int .u64 nr2_0_4) ∧ w66.cell? ⟨k2, 1, none⟩ = some (.int .u64 nr2_1_4) ∧ w66.cell? ⟨k2, 2, none⟩ = some (.int .i64 nr2_2_4) ∧ w66.cell? ⟨k2, 3, none⟩ = some (.int .i64 nr2_3_4) ∧ w66.cell? ⟨k2, 4, none⟩ = some (.int .i64 nr2_4_4) ∧ w66.cell? ⟨k2, 5, none⟩ = some (.int .i64 nr2_5_4) ∧ w66.cell? ⟨k2, 6, none⟩ = some (.bool br2_6_4) ∧ w66.cell? ⟨k2, 7, none⟩ = some (.int .i64 nr2_7_4) ∧ w66.cell? ⟨k2, 8, none⟩ = some (.int .i64 nr2_8_4) ∧ w66.cell? ⟨k2, 9, none⟩ = some (.int .i64 nr2_9_4)) ∧
  R (.tuple #[.agg #[.int .u64 nr2_0_4, .int .u64 nr2_1_4, .int .i64 nr2_2_4, .int .i64 nr2_3_4, .int .i64 nr2_4_4, .int .i64 nr2_5_4, .bool br2_6_4, .int .i64 nr2_7_4, .int .i64 nr2_8_4, .int .i64 nr2_9_4], .int .i64 1]) w66) ∧
  ((!(s77_0.toList == s0.toList)) = false →
  ∃ n88_0 : Int, ∃ n88_1 : Int, ∃ n88_2 : Int, ∃ n88_3 : Int, ∃ n88_4 : Int, ∃ n88_5 : Int, ∃ b88_6 : Bool, ∃ n88_7 : Int, ∃ n88_8 : Int, ∃ n88_9 : Int, (w46.cell? ⟨k8, 0, none⟩ = some (.int .u64 n88_0) ∧ w46.cell? ⟨k8, 1, none⟩ = some (.int .u64 n88_1) ∧ w46.cell? ⟨k8, 2, none⟩ = some (.int .i64 n88_2) ∧ w46.cell? ⟨k8, 3, none⟩ = some (.int .i64 n88_3) ∧ w46.cell? ⟨k8, 4, none⟩ = some (.int .i64 n88_4) ∧ w46.cell? ⟨k8, 5, none⟩ = some (.int .i64 n88_5) ∧ w46.cell? ⟨k8, 6, none⟩ = some (.bool b88_6) ∧ w46.cell? ⟨k8, 7, none⟩ = some (.int .i64 n88_7) ∧ w46.cell? ⟨k8, 8, none⟩ = some (.int .i64 n88_8) ∧ w46.cell? ⟨k8, 9, none⟩ = some (.int .i64 n88_9)) ∧
  St ⟨k2, 0, none⟩ (.int .u64 n88_0) w46 fun w67 =>
  St ⟨k2, 1, none⟩ (.int .u64 n88_1) w67 fun w68 =>
  St ⟨k2, 2, none⟩ (.int .i64 n88_2) w68 fun w69 =>
  St ⟨k2, 3, none⟩ (.int .i64 n88_3) w69 fun w70 =>
  St ⟨k2, 4, none⟩ (.int .i64 n88_4) w70 fun w71 =>
  St ⟨k2, 5, none⟩ (.int .i64 n88_5) w71 fun w72 =>
  St ⟨k2, 6, none⟩ (.bool b88_6) w72 fun w73 =>
  St ⟨k2, 7, none⟩ (.int .i64 n88_7) w73 fun w74 =>
  St ⟨k2, 8, none⟩ (.int .i64 n88_8) w74 fun w75 =>
  St ⟨k2, 9, none⟩ (.int .i64 n88_9) w75 fun w76 =>
  ∃ nr2_0_5 : Int, ∃ nr2_1_5 : Int, ∃ nr2_2_5 : Int, ∃ nr2_3_5 : Int, ∃ nr2_4_5 : Int, ∃ nr2_5_5 : Int, ∃ br2_6_5 : Bool, ∃ nr2_7_5 : Int, ∃ nr2_8_5 : Int, ∃ nr2_9_5 : Int, (w76.cell? ⟨k2, 0, none⟩ = some (.int .u64 nr2_0_5) ∧ w76.cell? ⟨k2, 1, none⟩ = some (.int .u64 nr2_1_5) ∧ w76.cell? ⟨k2, 2, none⟩ = some (.int .i64 nr2_2_5) ∧ w76.cell? ⟨k2, 3, none⟩ = some (.int .i64 nr2_3_5) ∧ w76.cell? ⟨k2, 4, none⟩ = some (.int .i64 nr2_4_5) ∧ w76.cell? ⟨k2, 5, none⟩ = some (.int .i64 nr2_5_5) ∧ w76.cell? ⟨k2, 6, none⟩ = some (.bool br2_6_5) ∧ w76.cell? ⟨k2, 7, none⟩ = some (.int .i64 nr2_7_5) ∧ w76.cell? ⟨k2, 8, none⟩ = some (.int .i64 nr2_8_5) ∧ w76.cell? ⟨k2, 9, none⟩ = some (.int .i64 nr2_9_5)) ∧
  R (.tuple #[.agg #[.int .u64 nr2_0_5, .int .u64 nr2_1_5, .int .i64 nr2_2_5, .int .i64 nr2_3_5, .int .i64 nr2_4_5, .int .i64 nr2_5_5, .bool br2_6_5, .int .i64 nr2_7_5, .int .i64 nr2_8_5, .int .i64 nr2_9_5], .int .i64 0]) w76)))))
theorem revetmentref08_Decode_eq (s0 : ByteArray) (w : World) (R : Value → World → Prop) : revetmentref08_Decode s0 w R = fnP Try.prog Try.f85 .o [.string s0] w R := by kernel_rfl
theorem revetmentref08_Decode_calls {s0 : ByteArray} {w : World} {R : Value → World → Prop} (h : revetmentref08_Decode s0 w R) : Calls Try.prog 85 #[.string s0] w fun e w1 => ∃ v, e = .returned v ∧ R v w1 := fnP_calls callable Try.func85 (revetmentref08_Decode_eq s0 w R ▸ h)

/-- revetment/revetmentref07.Check -/
def revetmentref07_Check (n0_0 : Int) (n0_1 : Int) (n0_2 : Int) (w : World) (R : Value → World → Prop) : Prop :=
  Alloc #[.int .i64 n0_0, .int .i64 n0_1, .int .i64 n0_2] 56 w fun k1 w1 =>
  ∃ n4 : Int, w1.cell? ⟨k1, 0, none⟩ = some (.int .i64 n4) ∧
  ((decide (n4 < 4)) = true →
  R (.int .i64 1) w1) ∧
  ((decide (n4 < 4)) = false →
  ∃ n8 : Int, w1.cell? ⟨k1, 0, none⟩ = some (.int .i64 n8) ∧
  ((decide (n8 > 10)) = true →
  R (.int .i64 1) w1) ∧
  ((decide (n8 > 10)) = false →
  ∃ n13 : Int, w1.cell? ⟨k1, 1, none⟩ = some (.int .i64 n13) ∧
  ((decide (n13 < 1)) = true →
  R (.int .i64 1) w1) ∧
  ((decide (n13 < 1)) = false →
  ∃ n18 : Int, w1.cell? ⟨k1, 1, none⟩ = some (.int .i64 n18) ∧
  ((decide (n18 > 4)) = true →
  R (.int .i64 1) w1) ∧
  ((decide (n18 > 4)) = false →
  ∃ n23 : Int, w1.cell? ⟨k1, 2, none⟩ = some (.int .i64 n23) ∧
  ((decide (n23 < 1)) = true →
  R (.int .i64 1) w1) ∧
  ((decide (n23 < 1)) = false →
  ∃ n28 : Int, w1.cell? ⟨k1, 2, none⟩ = some (.int .i64 n28) ∧
  ((decide (n28 > 256)) = true →
  R (.int .i64 1) w1) ∧
  ((decide (n28 > 256)) = false →
  R (.int .i64 0) w1))))))
theorem revetmentref07_Check_eq (n0_0 : Int) (n0_1 : Int) (n0_2 : Int) (w : World) (R : Value → World → Prop) : revetmentref07_Check n0_0 n0_1 n0_2 w R = fnP Try.prog Try.f91 .o [.agg #[.int .i64 n0_0, .int .i64 n0_1, .int .i64 n0_2]] w R := by kernel_rfl
theorem revetmentref07_Check_calls {n0_0 : Int} {n0_1 : Int} {n0_2 : Int} {w : World} {R : Value → World → Prop} (h : revetmentref07_Check n0_0 n0_1 n0_2 w R) : Calls Try.prog 91 #[.agg #[.int .i64 n0_0, .int .i64 n0_1, .int .i64 n0_2]] w fun e w1 => ∃ v, e = .returned v ∧ R v w1 := fnP_calls callable Try.func91 (revetmentref07_Check_eq n0_0 n0_1 n0_2 w R ▸ h)

/-- revetment/revetmentref03.Size -/
def revetmentref03_Size (p0 : Option Addr) (l0 c0 : Nat) (w : World) (R : Value → World → Prop) : Prop :=
  ((decide ((l0 : Int) > 64)) = true →
  R (.tuple #[.int .i64 0, .int .i64 1]) w) ∧
  ((decide ((l0 : Int) > 64)) = false →
  LoopP (fun I => I [.int .i64 0, .int .i64 0] w) fun K vs w1 => ∃ n4 : Int, ∃ n5 : Int, vs = [.int .i64 n4, .int .i64 n5] ∧
  ((decide (n5 < (l0 : Int))) = true →
  ∃ a17 : Addr, p0 = some a17 ∧ (0 : Int) ≤ n5 ∧ n5 < (l0 : Int) ∧
  ∃ n18 : Int, w1.cell? (Addr.add a17 (n5.toNat * 1)) = some (.int .i64 n18) ∧
  ((decide (n18 < 1)) = true →
  R (.tuple #[.int .i64 0, .int .i64 1]) w1) ∧
  ((decide (n18 < 1)) = false →
  ∃ a23 : Addr, p0 = some a23 ∧ (0 : Int) ≤ n5 ∧ n5 < (l0 : Int) ∧
  ∃ n24 : Int, w1.cell? (Addr.add a23 (n5.toNat * 1)) = some (.int .i64 n24) ∧
  ((decide (n24 > 8)) = true →
  R (.tuple #[.int .i64 0, .int .i64 1]) w1) ∧
  ((decide (n24 > 8)) = false →
  ∃ a30 : Addr, p0 = some a30 ∧ (0 : Int) ≤ n5 ∧ n5 < (l0 : Int) ∧
  ∃ n31 : Int, w1.cell? (Addr.add a30 (n5.toNat * 1)) = some (.int .i64 n31) ∧
  K [.int .i64 (IntKind.i64.wrap (n4 + n31)), .int .i64 (IntKind.i64.wrap (n5 + 1))] w1))) ∧
  ((decide (n5 < (l0 : Int))) = false →
  R (.tuple #[.int .i64 n4, .int .i64 0]) w1))
theorem revetmentref03_Size_eq (p0 : Option Addr) (l0 c0 : Nat) (w : World) (R : Value → World → Prop) : revetmentref03_Size p0 l0 c0 w R = fnP Try.prog Try.f92 (.s .o (.s .o (.s .o (.s (.s .o (.b (.l [(4, .one (.int .i64)), (5, .one (.int .i64))] .o))) .o)))) [.slice p0 l0 c0] w R := by kernel_rfl
theorem revetmentref03_Size_calls {p0 : Option Addr} {l0 c0 : Nat} {w : World} {R : Value → World → Prop} (h : revetmentref03_Size p0 l0 c0 w R) : Calls Try.prog 92 #[.slice p0 l0 c0] w fun e w1 => ∃ v, e = .returned v ∧ R v w1 := fnP_calls callable Try.func92 (revetmentref03_Size_eq p0 l0 c0 w R ▸ h)

/-- revetment/revetmentref03.Fits -/
def revetmentref03_Fits (n0 : Int) (n1 : Int) (w : World) (R : Value → World → Prop) : Prop :=
  ((decide (n1 < 1)) = true →
  R (.bool false) w) ∧
  ((decide (n1 < 1)) = false →
  ((decide (n1 > 8)) = true →
  R (.bool false) w) ∧
  ((decide (n1 > 8)) = false →
  LoopP (fun I => I [.int .u64 n0, .int .i64 0] w) fun K vs w1 => ∃ n0_1 : Int, ∃ n5 : Int, vs = [.int .u64 n0_1, .int .i64 n5] ∧
  ((decide (n5 < n1)) = true →
  K [.int .u64 (Int.fdiv n0_1 (2 ^ 8)), .int .i64 (IntKind.i64.wrap (n5 + 1))] w1) ∧
  ((decide (n5 < n1)) = false →
  R (.bool (n0_1 == 0)) w1)))
theorem revetmentref03_Fits_eq (n0 : Int) (n1 : Int) (w : World) (R : Value → World → Prop) : revetmentref03_Fits n0 n1 w R = fnP Try.prog Try.f93 (.s .o (.s .o (.s (.s .o (.b (.l [(0, .one (.int .u64)), (5, .one (.int .i64))] .o))) .o))) [.int .u64 n0, .int .i64 n1] w R := by kernel_rfl
theorem revetmentref03_Fits_calls {n0 : Int} {n1 : Int} {w : World} {R : Value → World → Prop} (h : revetmentref03_Fits n0 n1 w R) : Calls Try.prog 93 #[.int .u64 n0, .int .i64 n1] w fun e w1 => ∃ v, e = .returned v ∧ R v w1 := fnP_calls callable Try.func93 (revetmentref03_Fits_eq n0 n1 w R ▸ h)

/-- revetment/revetmentref02.four -/
def revetmentref02_four (n0 : Int) (w : World) (R : Value → World → Prop) : Prop :=
  Alloc #[.int .u8 (IntKind.u8.wrap n0), .int .u8 (IntKind.u8.wrap (Int.fdiv n0 (2 ^ 8))), .int .u8 (IntKind.u8.wrap (Int.fdiv n0 (2 ^ 16))), .int .u8 (IntKind.u8.wrap (Int.fdiv n0 (2 ^ 24)))] 5 w fun k14 w1 =>
  ∃ s15 : ByteArray, ∃ w2, (convert 30 9 (.slice (some ⟨k14, 0, none⟩) 4 4)).run Try.prog w1 = .ok (.string s15) w2 ∧
  R (.string s15) w2
theorem revetmentref02_four_eq (n0 : Int) (w : World) (R : Value → World → Prop) : revetmentref02_four n0 w R = fnP Try.prog Try.f94 .o [.int .u32 n0] w R := by kernel_rfl
theorem revetmentref02_four_calls {n0 : Int} {w : World} {R : Value → World → Prop} (h : revetmentref02_four n0 w R) : Calls Try.prog 94 #[.int .u32 n0] w fun e w1 => ∃ v, e = .returned v ∧ R v w1 := fnP_calls callable Try.func94 (revetmentref02_four_eq n0 w R ▸ h)

/-- revetment/revetmentref02.Sum -/
def revetmentref02_Sum (s0 : ByteArray) (w : World) (R : Value → World → Prop) : Prop :=
  Calls Try.prog 103 #[.int .u32 0, .string s0] w fun e w1 => ∃ n4 : Int, e = .returned (.int .u32 n4) ∧
  R (.int .u32 n4) w1
theorem revetmentref02_Sum_eq (s0 : ByteArray) (w : World) (R : Value → World → Prop) : revetmentref02_Sum s0 w R = fnP Try.prog Try.f95 .o [.string s0] w R := by kernel_rfl
theorem revetmentref02_Sum_calls {s0 : ByteArray} {w : World} {R : Value → World → Prop} (h : revetmentref02_Sum s0 w R) : Calls Try.prog 95 #[.string s0] w fun e w1 => ∃ v, e = .returned v ∧ R v w1 := fnP_calls callable Try.func95 (revetmentref02_Sum_eq s0 w R ▸ h)

/-- revetment/revetmentref02.Open -/
def revetmentref02_Open (s0 : ByteArray) (w : World) (R : Value → World → Prop) : Prop :=
  ((decide ((s0.size : Int) < 4)) = true →
  R (.tuple #[.string (ByteArray.mk #[]), .bool false]) w) ∧
  ((decide ((s0.size : Int) < 4)) = false →
  ∃ s12 : ByteArray, ∃ w1, (Instr.sliceAt 9 (.string s0) none (some (.int .i64 (IntKind.i64.wrap ((s0.size : Int) - 4)))) none).run Try.prog w = .ok (.string s12) w1 ∧
  ∃ D : World → Prop, D w1.drew ∧
  ∃ s17 : ByteArray, (∀ w, D w → (Instr.sliceAt 9 (.string s0) (some (.int .i64 (IntKind.i64.wrap ((s0.size : Int) - 4)))) none none).run Try.prog w = .ok (.string s17) w) ∧
  Calls Try.prog 95 #[.string s12] w1.drew fun e w2 => ∃ n19 : Int, e = .returned (.int .u32 n19) ∧
  D w2 ∧
  Calls Try.prog 94 #[.int .u32 n19] w2 fun e_1 w3 => ∃ s20 : ByteArray, e_1 = .returned (.string s20) ∧
  D w3 ∧
  ((!(s17.toList == s20.toList)) = true →
  R (.tuple #[.string (ByteArray.mk #[]), .bool false]) w3) ∧
  ((!(s17.toList == s20.toList)) = false →
  R (.tuple #[.string s12, .bool true]) w3))
theorem revetmentref02_Open_eq (s0 : ByteArray) (w : World) (R : Value → World → Prop) : revetmentref02_Open s0 w R = fnP Try.prog Try.f96 .o [.string s0] w R := by kernel_rfl
theorem revetmentref02_Open_calls {s0 : ByteArray} {w : World} {R : Value → World → Prop} (h : revetmentref02_Open s0 w R) : Calls Try.prog 96 #[.string s0] w fun e w1 => ∃ v, e = .returned v ∧ R v w1 := fnP_calls callable Try.func96 (revetmentref02_Open_eq s0 w R ▸ h)

/-- revetment/revetmentref03.Decode -/
def revetmentref03_Decode (s0 : ByteArray) (p1 : Option Addr) (l1 c1 : Nat) (w : World) (R : Value → World → Prop) : Prop :=
  Calls Try.prog 92 #[.slice p1 l1 c1] w fun e w1 => ∃ n15_0 : Int, ∃ n15_1 : Int, e = .returned (.tuple #[.int .i64 n15_0, .int .i64 n15_1]) ∧
  ((n15_1 != 0) = true →
  R (.tuple #[.slice none 0 0, .int .i64 n15_1]) w1) ∧
  ((n15_1 != 0) = false →
  (((s0.size : Int) != n15_0) = true →
  R (.tuple #[.slice none 0 0, .int .i64 31]) w1) ∧
  (((s0.size : Int) != n15_0) = false →
  Alloc #[] 53 w1 fun k25 w2 =>
  LoopP (fun I => I [.slice (some ⟨k25, 0, none⟩) 0 0, .int .i64 0, .int .i64 0] w2) fun K vs w3 => ∃ (p8 : Option Addr) (l8 c8 : Nat), ∃ n9 : Int, ∃ n10 : Int, vs = [.slice p8 l8 c8, .int .i64 n9, .int .i64 n10] ∧
  ((decide (n10 < (l1 : Int))) = true →
  LoopP (fun I_1 => I_1 [.int .u64 0, .int .i64 0] w3) fun K_1 vs_1 w4 => ∃ n11 : Int, ∃ n12 : Int, vs_1 = [.int .u64 n11, .int .i64 n12] ∧
  ∃ a35 : Addr, p1 = some a35 ∧ (0 : Int) ≤ n10 ∧ n10 < (l1 : Int) ∧
  ∃ n36 : Int, w4.cell? (Addr.add a35 (n10.toNat * 1)) = some (.int .i64 n36) ∧
  ((decide (n12 < n36)) = true →
  ∃ n45 : Int, ∃ w5, (Instr.index 9 (.string s0) (.int .i64 (IntKind.i64.wrap (n9 + n12)))).run Try.prog w4 = .ok (.int .u8 n45) w5 ∧
  (0 : Int) ≤ (IntKind.i64.wrap (8 * n12)) ∧
  K_1 [.int .u64 (bits2 .or .u64 n11 (IntKind.u64.wrap ((IntKind.u64.wrap n45) * 2 ^ (min (IntKind.i64.wrap (8 * n12)).toNat 64)))), .int .i64 (IntKind.i64.wrap (n12 + 1))] w5) ∧
  ((decide (n12 < n36)) = false →
  Alloc #[.int .u64 n11] 53 w4 fun k53 w6 =>
  ∃ (p54 : Option Addr) (l54 c54 : Nat), ∃ w7, (builtin .append #[94, 94] 94 #[false, false] #[.slice p8 l8 c8, .slice (some ⟨k53, 0, none⟩) 1 1]).run Try.prog w6 = .ok (.value (.slice p54 l54 c54)) w7 ∧
  ∃ a58 : Addr, p1 = some a58 ∧ (0 : Int) ≤ n10 ∧ n10 < (l1 : Int) ∧
  ∃ n59 : Int, w7.cell? (Addr.add a58 (n10.toNat * 1)) = some (.int .i64 n59) ∧
  K [.slice p54 l54 c54, .int .i64 (IntKind.i64.wrap (n9 + n59)), .int .i64 (IntKind.i64.wrap (n10 + 1))] w7)) ∧
  ((decide (n10 < (l1 : Int))) = false →
  R (.tuple #[.slice p8 l8 c8, .int .i64 0]) w3)))
theorem revetmentref03_Decode_eq (s0 : ByteArray) (p1 : Option Addr) (l1 c1 : Nat) (w : World) (R : Value → World → Prop) : revetmentref03_Decode s0 p1 l1 c1 w R = fnP Try.prog Try.f97 (.s .o (.s .o (.s .o (.s .o (.s .o (.s .o (.s (.s .o (.b (.l [(8, .one .slice), (9, .one (.int .i64)), (10, .one (.int .i64))] (.s .o (.s (.b (.s .o (.s (.s .o (.b (.l [(11, .one (.int .u64)), (12, .one (.int .i64))] .o))) .o))) .o))))) .o))))))) [.string s0, .slice p1 l1 c1] w R := by kernel_rfl
theorem revetmentref03_Decode_calls {s0 : ByteArray} {p1 : Option Addr} {l1 c1 : Nat} {w : World} {R : Value → World → Prop} (h : revetmentref03_Decode s0 p1 l1 c1 w R) : Calls Try.prog 97 #[.string s0, .slice p1 l1 c1] w fun e w1 => ∃ v, e = .returned v ∧ R v w1 := fnP_calls callable Try.func97 (revetmentref03_Decode_eq s0 p1 l1 c1 w R ▸ h)

/-- revetment/revetmentref02.More -/
def revetmentref02_More (n0 : Int) (s1 : ByteArray) (w : World) (R : Value → World → Prop) : Prop :=
  LoopP (fun I => I [.int .u32 (bits2 .xor .u32 IntKind.u32.max n0), .int .i64 0] w) fun K vs w1 => ∃ n5 : Int, ∃ n6 : Int, vs = [.int .u32 n5, .int .i64 n6] ∧
  ((decide (n6 < (s1.size : Int))) = true →
  ∃ n20 : Int, ∃ w2, (Instr.index 9 (.string s1) (.int .i64 n6)).run Try.prog w1 = .ok (.int .u8 n20) w2 ∧
  LoopP (fun I_1 => I_1 [.int .u32 (bits2 .xor .u32 n5 (IntKind.u32.wrap n20)), .int .i64 0] w2) fun K_1 vs_1 w3 => ∃ n5_1 : Int, ∃ n7 : Int, vs_1 = [.int .u32 n5_1, .int .i64 n7] ∧
  ((decide (n7 < 8)) = true →
  (((bits2 .and .u32 n5_1 1) == 1) = true →
  K_1 [.int .u32 (bits2 .xor .u32 (Int.fdiv n5_1 (2 ^ 1)) 2197175160), .int .i64 (IntKind.i64.wrap (n7 + 1))] w3) ∧
  (((bits2 .and .u32 n5_1 1) == 1) = false →
  K_1 [.int .u32 (Int.fdiv n5_1 (2 ^ 1)), .int .i64 (IntKind.i64.wrap (n7 + 1))] w3)) ∧
  ((decide (n7 < 8)) = false →
  K [.int .u32 n5_1, .int .i64 (IntKind.i64.wrap (n6 + 1))] w3)) ∧
  ((decide (n6 < (s1.size : Int))) = false →
  R (.int .u32 (bits2 .xor .u32 IntKind.u32.max n5)) w1)
theorem revetmentref02_More_eq (n0 : Int) (s1 : ByteArray) (w : World) (R : Value → World → Prop) : revetmentref02_More n0 s1 w R = fnP Try.prog Try.f103 (.s .o (.s .o (.s (.s .o (.b (.l [(5, .one (.int .u32)), (6, .one (.int .i64))] (.s .o (.s (.b (.s .o (.s .o (.b (.l [(5, .one (.int .u32)), (7, .one (.int .i64))] .o))))) .o))))) .o))) [.int .u32 n0, .string s1] w R := by kernel_rfl
theorem revetmentref02_More_calls {n0 : Int} {s1 : ByteArray} {w : World} {R : Value → World → Prop} (h : revetmentref02_More n0 s1 w R) : Calls Try.prog 103 #[.int .u32 n0, .string s1] w fun e w1 => ∃ v, e = .returned v ∧ R v w1 := fnP_calls callable Try.func103 (revetmentref02_More_eq n0 s1 w R ▸ h)

end Go.Proofs.Ytdppllkjibfjcaa
