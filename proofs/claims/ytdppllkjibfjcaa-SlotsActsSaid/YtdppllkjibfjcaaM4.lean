import Derived.Test.YtdppllkjibfjcaaM2
import Derived.Test.YtdppllkjibfjcaaM3
/-! The formulas of Go functions, printed by a program of this session (shprint.py), each tied to the loaded function by the kernel. -/
namespace Go.Proofs.Ytdppllkjibfjcaa
open Go.Sh
set_option linter.unusedVariables false
set_option maxRecDepth 100000
/-- revetment/revetmentlaw09.SlotsNone -/
def revetmentlaw09_SlotsNone (n0 : Int) (n1 : Int) (n2 : Int) (s3_0 : ByteArray) (s3_1 : ByteArray) (w : World) (R : Value → World → Prop) : Prop :=
  Alloc #[.string s3_0, .string s3_1] 54 w fun k7 w1 =>
  (0 : Int) ≤ 0 ∧ 0 < (2 : Int) ∧
  ∃ s19 : ByteArray, w1.cell? ⟨k7, 0, none⟩ = some (.string s19) ∧
  ((decide ((s19.size : Int) > 60)) = true →
  Calls Try.prog 32 #[] w1 fun e w2 => ∃ b32 : Bool, e = .returned (.bool b32) ∧
  R (.bool b32) w2) ∧
  ((decide ((s19.size : Int) > 60)) = false →
  (0 : Int) ≤ 1 ∧ 1 < (2 : Int) ∧
  ∃ s24 : ByteArray, w1.cell? ⟨k7, 1, none⟩ = some (.string s24) ∧
  ((decide ((s24.size : Int) > 60)) = true →
  Calls Try.prog 32 #[] w1 fun e_1 w3 => ∃ b32_1 : Bool, e_1 = .returned (.bool b32_1) ∧
  R (.bool b32_1) w3) ∧
  ((decide ((s24.size : Int) > 60)) = false →
  Calls Try.prog 32 #[] w1 fun e_2 w4 => ∃ b29 : Bool, e_2 = .returned (.bool b29) ∧
  ((!b29) = true →
  Calls Try.prog 32 #[] w4 fun e_3 w5 => ∃ b32_2 : Bool, e_3 = .returned (.bool b32_2) ∧
  R (.bool b32_2) w5) ∧
  ((!b29) = false →
  Calls Try.prog 13 #[.int .i64 3] w4 fun e_4 w6 => ∃ p33 : Option Addr, e_4 = .returned (.pointer p33) ∧
  ((Option.isNone p33) = true →
  R (.bool false) w6) ∧
  ((Option.isNone p33) = false →
  LoopP (fun I => I [.int .i64 0] w6) fun K vs w7 => ∃ n10 : Int, vs = [.int .i64 n10] ∧
  ((decide (n10 < 2)) = true →
  ∃ D : World → Prop, D w7.drew ∧
  (0 : Int) ≤ n10 ∧ n10 < (2 : Int) ∧
  ∃ s42 : ByteArray, (∀ w, D w → w.cell? (Addr.add ⟨k7, 0, none⟩ (n10.toNat * 1)) = some (.string s42)) ∧
  (((ByteArray.mk #[122, 122]).size + s42.size : Nat) : Int) ≤ 9223372036854775807 ∧
  Calls Try.prog 23 #[] w7.drew fun e_5 w8 => ∃ s44 : ByteArray, e_5 = .returned (.string s44) ∧
  D w8 ∧
  ((((ByteArray.mk #[122, 122]) ++ s42).size + s44.size : Nat) : Int) ≤ 9223372036854775807 ∧
  ∃ s46 : ByteArray, (∀ x0, x0 = w8 → (Instr.sliceAt 9 (.string (((ByteArray.mk #[122, 122]) ++ s42) ++ s44)) none (some (.int .i64 64)) none).run Try.prog x0 = .ok (.string s46) x0) ∧
  Calls Try.prog 30 #[.pointer p33, .int .i64 n10, .string s46] w8 fun e_6 w9 => ∃ n50 : Int, e_6 = .returned (.int .i64 n50) ∧
  ((n50 != 0) = true →
  R (.bool false) w9) ∧
  ((n50 != 0) = false →
  K [.int .i64 (IntKind.i64.wrap (n10 + 1))] w9)) ∧
  ((decide (n10 < 2)) = false →
  Calls Try.prog 33 #[.pointer p33] w7 fun e_7 w10 => ∃ n54_0_0 : Int, ∃ n54_0_1 : Int, ∃ n54_0_2 : Int, ∃ n54_0_3 : Int, ∃ n54_0_4 : Int, ∃ n54_0_5 : Int, ∃ b54_0_6 : Bool, ∃ n54_0_7 : Int, ∃ n54_0_8 : Int, ∃ n54_0_9 : Int, ∃ n54_1 : Int, e_7 = .returned (.tuple #[.agg #[.int .u64 n54_0_0, .int .u64 n54_0_1, .int .i64 n54_0_2, .int .i64 n54_0_3, .int .i64 n54_0_4, .int .i64 n54_0_5, .bool b54_0_6, .int .i64 n54_0_7, .int .i64 n54_0_8, .int .i64 n54_0_9], .int .i64 n54_1]) ∧
  Alloc #[.int .u64 0, .int .u64 0, .int .i64 0, .int .i64 0, .int .i64 0, .int .i64 0, .bool false, .int .i64 0, .int .i64 0, .int .i64 0] 58 w10 fun k12 w11 =>
  St ⟨k12, 0, none⟩ (.int .u64 n54_0_0) w11 fun w12 =>
  St ⟨k12, 1, none⟩ (.int .u64 n54_0_1) w12 fun w13 =>
  St ⟨k12, 2, none⟩ (.int .i64 n54_0_2) w13 fun w14 =>
  St ⟨k12, 3, none⟩ (.int .i64 n54_0_3) w14 fun w15 =>
  St ⟨k12, 4, none⟩ (.int .i64 n54_0_4) w15 fun w16 =>
  St ⟨k12, 5, none⟩ (.int .i64 n54_0_5) w16 fun w17 =>
  St ⟨k12, 6, none⟩ (.bool b54_0_6) w17 fun w18 =>
  St ⟨k12, 7, none⟩ (.int .i64 n54_0_7) w18 fun w19 =>
  St ⟨k12, 8, none⟩ (.int .i64 n54_0_8) w19 fun w20 =>
  St ⟨k12, 9, none⟩ (.int .i64 n54_0_9) w20 fun w21 =>
  Calls Try.prog 34 #[.int .u64 n0, .int .u64 n1, .int .u8 n2] w21 fun e_8 w22 => ∃ n60_0 : Int, ∃ n60_1 : Int, ∃ n60_2 : Int, ∃ n60_3 : Int, ∃ n60_4 : Int, ∃ n60_5 : Int, ∃ b60_6 : Bool, ∃ n60_7 : Int, ∃ n60_8 : Int, ∃ n60_9 : Int, e_8 = .returned (.agg #[.int .u64 n60_0, .int .u64 n60_1, .int .i64 n60_2, .int .i64 n60_3, .int .i64 n60_4, .int .i64 n60_5, .bool b60_6, .int .i64 n60_7, .int .i64 n60_8, .int .i64 n60_9]) ∧
  Alloc #[.int .u64 0, .int .u64 0, .int .i64 0, .int .i64 0, .int .i64 0, .int .i64 0, .bool false, .int .i64 0, .int .i64 0, .int .i64 0] 58 w22 fun k14 w23 =>
  St ⟨k14, 0, none⟩ (.int .u64 n60_0) w23 fun w24 =>
  St ⟨k14, 1, none⟩ (.int .u64 n60_1) w24 fun w25 =>
  St ⟨k14, 2, none⟩ (.int .i64 n60_2) w25 fun w26 =>
  St ⟨k14, 3, none⟩ (.int .i64 n60_3) w26 fun w27 =>
  St ⟨k14, 4, none⟩ (.int .i64 n60_4) w27 fun w28 =>
  St ⟨k14, 5, none⟩ (.int .i64 n60_5) w28 fun w29 =>
  St ⟨k14, 6, none⟩ (.bool b60_6) w29 fun w30 =>
  St ⟨k14, 7, none⟩ (.int .i64 n60_7) w30 fun w31 =>
  St ⟨k14, 8, none⟩ (.int .i64 n60_8) w31 fun w32 =>
  St ⟨k14, 9, none⟩ (.int .i64 n60_9) w32 fun w33 =>
  ∃ n62_0 : Int, ∃ n62_1 : Int, ∃ n62_2 : Int, ∃ n62_3 : Int, ∃ n62_4 : Int, ∃ n62_5 : Int, ∃ b62_6 : Bool, ∃ n62_7 : Int, ∃ n62_8 : Int, ∃ n62_9 : Int, (w33.cell? ⟨k14, 0, none⟩ = some (.int .u64 n62_0) ∧ w33.cell? ⟨k14, 1, none⟩ = some (.int .u64 n62_1) ∧ w33.cell? ⟨k14, 2, none⟩ = some (.int .i64 n62_2) ∧ w33.cell? ⟨k14, 3, none⟩ = some (.int .i64 n62_3) ∧ w33.cell? ⟨k14, 4, none⟩ = some (.int .i64 n62_4) ∧ w33.cell? ⟨k14, 5, none⟩ = some (.int .i64 n62_5) ∧ w33.cell? ⟨k14, 6, none⟩ = some (.bool b62_6) ∧ w33.cell? ⟨k14, 7, none⟩ = some (.int .i64 n62_7) ∧ w33.cell? ⟨k14, 8, none⟩ = some (.int .i64 n62_8) ∧ w33.cell? ⟨k14, 9, none⟩ = some (.int .i64 n62_9)) ∧
  Calls Try.prog 35 #[.pointer p33, .agg #[.int .u64 n62_0, .int .u64 n62_1, .int .i64 n62_2, .int .i64 n62_3, .int .i64 n62_4, .int .i64 n62_5, .bool b62_6, .int .i64 n62_7, .int .i64 n62_8, .int .i64 n62_9]] w33 fun e_9 w34 => ∃ n63 : Int, e_9 = .returned (.int .i64 n63) ∧
  Calls Try.prog 33 #[.pointer p33] w34 fun e_10 w35 => ∃ n66_0_0 : Int, ∃ n66_0_1 : Int, ∃ n66_0_2 : Int, ∃ n66_0_3 : Int, ∃ n66_0_4 : Int, ∃ n66_0_5 : Int, ∃ b66_0_6 : Bool, ∃ n66_0_7 : Int, ∃ n66_0_8 : Int, ∃ n66_0_9 : Int, ∃ n66_1 : Int, e_10 = .returned (.tuple #[.agg #[.int .u64 n66_0_0, .int .u64 n66_0_1, .int .i64 n66_0_2, .int .i64 n66_0_3, .int .i64 n66_0_4, .int .i64 n66_0_5, .bool b66_0_6, .int .i64 n66_0_7, .int .i64 n66_0_8, .int .i64 n66_0_9], .int .i64 n66_1]) ∧
  Alloc #[.int .u64 0, .int .u64 0, .int .i64 0, .int .i64 0, .int .i64 0, .int .i64 0, .bool false, .int .i64 0, .int .i64 0, .int .i64 0] 58 w35 fun k16 w36 =>
  St ⟨k16, 0, none⟩ (.int .u64 n66_0_0) w36 fun w37 =>
  St ⟨k16, 1, none⟩ (.int .u64 n66_0_1) w37 fun w38 =>
  St ⟨k16, 2, none⟩ (.int .i64 n66_0_2) w38 fun w39 =>
  St ⟨k16, 3, none⟩ (.int .i64 n66_0_3) w39 fun w40 =>
  St ⟨k16, 4, none⟩ (.int .i64 n66_0_4) w40 fun w41 =>
  St ⟨k16, 5, none⟩ (.int .i64 n66_0_5) w41 fun w42 =>
  St ⟨k16, 6, none⟩ (.bool b66_0_6) w42 fun w43 =>
  St ⟨k16, 7, none⟩ (.int .i64 n66_0_7) w43 fun w44 =>
  St ⟨k16, 8, none⟩ (.int .i64 n66_0_8) w44 fun w45 =>
  St ⟨k16, 9, none⟩ (.int .i64 n66_0_9) w45 fun w46 =>
  ((n54_1 == 90) = true →
  ((n63 == 0) = true →
  ((n66_1 == 0) = true →
  ∃ n80_0 : Int, ∃ n80_1 : Int, ∃ n80_2 : Int, ∃ n80_3 : Int, ∃ n80_4 : Int, ∃ n80_5 : Int, ∃ b80_6 : Bool, ∃ n80_7 : Int, ∃ n80_8 : Int, ∃ n80_9 : Int, (w46.cell? ⟨k16, 0, none⟩ = some (.int .u64 n80_0) ∧ w46.cell? ⟨k16, 1, none⟩ = some (.int .u64 n80_1) ∧ w46.cell? ⟨k16, 2, none⟩ = some (.int .i64 n80_2) ∧ w46.cell? ⟨k16, 3, none⟩ = some (.int .i64 n80_3) ∧ w46.cell? ⟨k16, 4, none⟩ = some (.int .i64 n80_4) ∧ w46.cell? ⟨k16, 5, none⟩ = some (.int .i64 n80_5) ∧ w46.cell? ⟨k16, 6, none⟩ = some (.bool b80_6) ∧ w46.cell? ⟨k16, 7, none⟩ = some (.int .i64 n80_7) ∧ w46.cell? ⟨k16, 8, none⟩ = some (.int .i64 n80_8) ∧ w46.cell? ⟨k16, 9, none⟩ = some (.int .i64 n80_9)) ∧
  ∃ n81_0 : Int, ∃ n81_1 : Int, ∃ n81_2 : Int, ∃ n81_3 : Int, ∃ n81_4 : Int, ∃ n81_5 : Int, ∃ b81_6 : Bool, ∃ n81_7 : Int, ∃ n81_8 : Int, ∃ n81_9 : Int, (w46.cell? ⟨k14, 0, none⟩ = some (.int .u64 n81_0) ∧ w46.cell? ⟨k14, 1, none⟩ = some (.int .u64 n81_1) ∧ w46.cell? ⟨k14, 2, none⟩ = some (.int .i64 n81_2) ∧ w46.cell? ⟨k14, 3, none⟩ = some (.int .i64 n81_3) ∧ w46.cell? ⟨k14, 4, none⟩ = some (.int .i64 n81_4) ∧ w46.cell? ⟨k14, 5, none⟩ = some (.int .i64 n81_5) ∧ w46.cell? ⟨k14, 6, none⟩ = some (.bool b81_6) ∧ w46.cell? ⟨k14, 7, none⟩ = some (.int .i64 n81_7) ∧ w46.cell? ⟨k14, 8, none⟩ = some (.int .i64 n81_8) ∧ w46.cell? ⟨k14, 9, none⟩ = some (.int .i64 n81_9)) ∧
  ∃ b82 : Bool, ∃ w47, (do eqGuard .eql 58 (.tmp 80) (.tmp 81) (.agg #[.int .u64 n80_0, .int .u64 n80_1, .int .i64 n80_2, .int .i64 n80_3, .int .i64 n80_4, .int .i64 n80_5, .bool b80_6, .int .i64 n80_7, .int .i64 n80_8, .int .i64 n80_9]) (.agg #[.int .u64 n81_0, .int .u64 n81_1, .int .i64 n81_2, .int .i64 n81_3, .int .i64 n81_4, .int .i64 n81_5, .bool b81_6, .int .i64 n81_7, .int .i64 n81_8, .int .i64 n81_9]); binOp .eql 58 (.agg #[.int .u64 n80_0, .int .u64 n80_1, .int .i64 n80_2, .int .i64 n80_3, .int .i64 n80_4, .int .i64 n80_5, .bool b80_6, .int .i64 n80_7, .int .i64 n80_8, .int .i64 n80_9]) (.agg #[.int .u64 n81_0, .int .u64 n81_1, .int .i64 n81_2, .int .i64 n81_3, .int .i64 n81_4, .int .i64 n81_5, .bool b81_6, .int .i64 n81_7, .int .i64 n81_8, .int .i64 n81_9]) : Sem Value).run Try.prog w46 = .ok (.bool b82) w47 ∧
  R (.bool b82) w47) ∧
  ((n66_1 == 0) = false →
  R (.bool false) w46)) ∧
  ((n63 == 0) = false →
  R (.bool false) w46)) ∧
  ((n54_1 == 90) = false →
  R (.bool false) w46))))))
theorem revetmentlaw09_SlotsNone_eq (n0 : Int) (n1 : Int) (n2 : Int) (s3_0 : ByteArray) (s3_1 : ByteArray) (w : World) (R : Value → World → Prop) : revetmentlaw09_SlotsNone n0 n1 n2 s3_0 s3_1 w R = fnP Try.prog Try.f8 (.s .o (.s .o (.s .o (.s .o (.s (.s .o (.b (.l [(10, .one (.int .i64))] .o))) .o))))) [.int .u64 n0, .int .u64 n1, .int .u8 n2, .agg #[.string s3_0, .string s3_1]] w R := by kernel_rfl
theorem revetmentlaw09_SlotsNone_calls {n0 : Int} {n1 : Int} {n2 : Int} {s3_0 : ByteArray} {s3_1 : ByteArray} {w : World} {R : Value → World → Prop} (h : revetmentlaw09_SlotsNone n0 n1 n2 s3_0 s3_1 w R) : Calls Try.prog 8 #[.int .u64 n0, .int .u64 n1, .int .u8 n2, .agg #[.string s3_0, .string s3_1]] w fun e w1 => ∃ v, e = .returned v ∧ R v w1 := fnP_calls callable Try.func8 (revetmentlaw09_SlotsNone_eq n0 n1 n2 s3_0 s3_1 w R ▸ h)

/-- revetment/revetmentlaw09.SlotsCrash -/
def revetmentlaw09_SlotsCrash (n0 : Int) (n1 : Int) (n2 : Int) (n3 : Int) (p4 : Option Addr) (l4 c4 : Nat) (w : World) (R : Value → World → Prop) : Prop :=
  ((decide ((l4 : Int) > 50)) = true →
  Calls Try.prog 32 #[] w fun e w1 => ∃ b24 : Bool, e = .returned (.bool b24) ∧
  R (.bool b24) w1) ∧
  ((decide ((l4 : Int) > 50)) = false →
  Calls Try.prog 32 #[] w fun e_1 w2 => ∃ b21 : Bool, e_1 = .returned (.bool b21) ∧
  ((!b21) = true →
  Calls Try.prog 32 #[] w2 fun e_2 w3 => ∃ b24_1 : Bool, e_2 = .returned (.bool b24_1) ∧
  R (.bool b24_1) w3) ∧
  ((!b21) = false →
  Calls Try.prog 13 #[.int .i64 2] w2 fun e_3 w4 => ∃ p25 : Option Addr, e_3 = .returned (.pointer p25) ∧
  ((Option.isNone p25) = true →
  R (.bool false) w4) ∧
  ((Option.isNone p25) = false →
  Calls Try.prog 34 #[.int .u64 n0, .int .u64 (Int.tmod n1 1152921504606846976), .int .u8 n2] w4 fun e_4 w5 => ∃ n34_0 : Int, ∃ n34_1 : Int, ∃ n34_2 : Int, ∃ n34_3 : Int, ∃ n34_4 : Int, ∃ n34_5 : Int, ∃ b34_6 : Bool, ∃ n34_7 : Int, ∃ n34_8 : Int, ∃ n34_9 : Int, e_4 = .returned (.agg #[.int .u64 n34_0, .int .u64 n34_1, .int .i64 n34_2, .int .i64 n34_3, .int .i64 n34_4, .int .i64 n34_5, .bool b34_6, .int .i64 n34_7, .int .i64 n34_8, .int .i64 n34_9]) ∧
  Calls Try.prog 35 #[.pointer p25, .agg #[.int .u64 n34_0, .int .u64 n34_1, .int .i64 n34_2, .int .i64 n34_3, .int .i64 n34_4, .int .i64 n34_5, .bool b34_6, .int .i64 n34_7, .int .i64 n34_8, .int .i64 n34_9]] w5 fun e_5 w6 => ∃ n35 : Int, e_5 = .returned (.int .i64 n35) ∧
  ((n35 != 0) = true →
  R (.bool false) w6) ∧
  ((n35 != 0) = false →
  Calls Try.prog 34 #[.int .u64 n0, .int .u64 (IntKind.u64.wrap ((Int.tmod n1 1152921504606846976) + 1)), .int .u8 n3] w6 fun e_6 w7 => ∃ n42_0 : Int, ∃ n42_1 : Int, ∃ n42_2 : Int, ∃ n42_3 : Int, ∃ n42_4 : Int, ∃ n42_5 : Int, ∃ b42_6 : Bool, ∃ n42_7 : Int, ∃ n42_8 : Int, ∃ n42_9 : Int, e_6 = .returned (.agg #[.int .u64 n42_0, .int .u64 n42_1, .int .i64 n42_2, .int .i64 n42_3, .int .i64 n42_4, .int .i64 n42_5, .bool b42_6, .int .i64 n42_7, .int .i64 n42_8, .int .i64 n42_9]) ∧
  Calls Try.prog 36 #[.agg #[.int .u64 n42_0, .int .u64 n42_1, .int .i64 n42_2, .int .i64 n42_3, .int .i64 n42_4, .int .i64 n42_5, .bool b42_6, .int .i64 n42_7, .int .i64 n42_8, .int .i64 n42_9]] w7 fun e_7 w8 => ∃ s43_0 : ByteArray, ∃ n43_1 : Int, e_7 = .returned (.tuple #[.string s43_0, .int .i64 n43_1]) ∧
  ((n43_1 != 0) = true →
  R (.bool false) w8) ∧
  ((n43_1 != 0) = false →
  Calls Try.prog 14 #[.pointer p25, .int .i64 (IntKind.i64.wrap (Int.tmod (IntKind.u64.wrap ((Int.tmod n1 1152921504606846976) + 1)) 2)), .string s43_0] w8 fun e_8 w9 => ∃ n55 : Int, e_8 = .returned (.int .i64 n55) ∧
  ((n55 != 0) = true →
  R (.bool false) w9) ∧
  ((n55 != 0) = false →
  Calls Try.prog 17 #[.pointer p25, .slice p4 l4 c4] w9 fun e_9 w10 => e_9 = .returned (.tuple #[]) ∧
  Calls Try.prog 33 #[.pointer p25] w10 fun e_10 w11 => ∃ n63_0_0 : Int, ∃ n63_0_1 : Int, ∃ n63_0_2 : Int, ∃ n63_0_3 : Int, ∃ n63_0_4 : Int, ∃ n63_0_5 : Int, ∃ b63_0_6 : Bool, ∃ n63_0_7 : Int, ∃ n63_0_8 : Int, ∃ n63_0_9 : Int, ∃ n63_1 : Int, e_10 = .returned (.tuple #[.agg #[.int .u64 n63_0_0, .int .u64 n63_0_1, .int .i64 n63_0_2, .int .i64 n63_0_3, .int .i64 n63_0_4, .int .i64 n63_0_5, .bool b63_0_6, .int .i64 n63_0_7, .int .i64 n63_0_8, .int .i64 n63_0_9], .int .i64 n63_1]) ∧
  Alloc #[.int .u64 0, .int .u64 0, .int .i64 0, .int .i64 0, .int .i64 0, .int .i64 0, .bool false, .int .i64 0, .int .i64 0, .int .i64 0] 58 w11 fun k15 w12 =>
  St ⟨k15, 0, none⟩ (.int .u64 n63_0_0) w12 fun w13 =>
  St ⟨k15, 1, none⟩ (.int .u64 n63_0_1) w13 fun w14 =>
  St ⟨k15, 2, none⟩ (.int .i64 n63_0_2) w14 fun w15 =>
  St ⟨k15, 3, none⟩ (.int .i64 n63_0_3) w15 fun w16 =>
  St ⟨k15, 4, none⟩ (.int .i64 n63_0_4) w16 fun w17 =>
  St ⟨k15, 5, none⟩ (.int .i64 n63_0_5) w17 fun w18 =>
  St ⟨k15, 6, none⟩ (.bool b63_0_6) w18 fun w19 =>
  St ⟨k15, 7, none⟩ (.int .i64 n63_0_7) w19 fun w20 =>
  St ⟨k15, 8, none⟩ (.int .i64 n63_0_8) w20 fun w21 =>
  St ⟨k15, 9, none⟩ (.int .i64 n63_0_9) w21 fun w22 =>
  ∃ D : World → Prop, D w22.drew ∧
  ((n63_1 == 0) = true →
  ∃ n69_0 : Int, ∃ n69_1 : Int, ∃ n69_2 : Int, ∃ n69_3 : Int, ∃ n69_4 : Int, ∃ n69_5 : Int, ∃ b69_6 : Bool, ∃ n69_7 : Int, ∃ n69_8 : Int, ∃ n69_9 : Int, (∀ w, D w → w.cell? ⟨k15, 0, none⟩ = some (.int .u64 n69_0) ∧ w.cell? ⟨k15, 1, none⟩ = some (.int .u64 n69_1) ∧ w.cell? ⟨k15, 2, none⟩ = some (.int .i64 n69_2) ∧ w.cell? ⟨k15, 3, none⟩ = some (.int .i64 n69_3) ∧ w.cell? ⟨k15, 4, none⟩ = some (.int .i64 n69_4) ∧ w.cell? ⟨k15, 5, none⟩ = some (.int .i64 n69_5) ∧ w.cell? ⟨k15, 6, none⟩ = some (.bool b69_6) ∧ w.cell? ⟨k15, 7, none⟩ = some (.int .i64 n69_7) ∧ w.cell? ⟨k15, 8, none⟩ = some (.int .i64 n69_8) ∧ w.cell? ⟨k15, 9, none⟩ = some (.int .i64 n69_9)) ∧
  Calls Try.prog 34 #[.int .u64 n0, .int .u64 (Int.tmod n1 1152921504606846976), .int .u8 n2] w22.drew fun e_11 w23 => ∃ n73_0 : Int, ∃ n73_1 : Int, ∃ n73_2 : Int, ∃ n73_3 : Int, ∃ n73_4 : Int, ∃ n73_5 : Int, ∃ b73_6 : Bool, ∃ n73_7 : Int, ∃ n73_8 : Int, ∃ n73_9 : Int, e_11 = .returned (.agg #[.int .u64 n73_0, .int .u64 n73_1, .int .i64 n73_2, .int .i64 n73_3, .int .i64 n73_4, .int .i64 n73_5, .bool b73_6, .int .i64 n73_7, .int .i64 n73_8, .int .i64 n73_9]) ∧
  D w23 ∧
  ∃ b74 : Bool, (∀ w, D w → (do eqGuard .eql 58 (.tmp 69) (.tmp 73) (.agg #[.int .u64 n69_0, .int .u64 n69_1, .int .i64 n69_2, .int .i64 n69_3, .int .i64 n69_4, .int .i64 n69_5, .bool b69_6, .int .i64 n69_7, .int .i64 n69_8, .int .i64 n69_9]) (.agg #[.int .u64 n73_0, .int .u64 n73_1, .int .i64 n73_2, .int .i64 n73_3, .int .i64 n73_4, .int .i64 n73_5, .bool b73_6, .int .i64 n73_7, .int .i64 n73_8, .int .i64 n73_9]); binOp .eql 58 (.agg #[.int .u64 n69_0, .int .u64 n69_1, .int .i64 n69_2, .int .i64 n69_3, .int .i64 n69_4, .int .i64 n69_5, .bool b69_6, .int .i64 n69_7, .int .i64 n69_8, .int .i64 n69_9]) (.agg #[.int .u64 n73_0, .int .u64 n73_1, .int .i64 n73_2, .int .i64 n73_3, .int .i64 n73_4, .int .i64 n73_5, .bool b73_6, .int .i64 n73_7, .int .i64 n73_8, .int .i64 n73_9]) : Sem Value).run Try.prog w = .ok (.bool b74) w) ∧
  (b74 = true →
  R (.bool true) w23) ∧
  (b74 = false →
  ∃ n76_0 : Int, ∃ n76_1 : Int, ∃ n76_2 : Int, ∃ n76_3 : Int, ∃ n76_4 : Int, ∃ n76_5 : Int, ∃ b76_6 : Bool, ∃ n76_7 : Int, ∃ n76_8 : Int, ∃ n76_9 : Int, (∀ w, D w → w.cell? ⟨k15, 0, none⟩ = some (.int .u64 n76_0) ∧ w.cell? ⟨k15, 1, none⟩ = some (.int .u64 n76_1) ∧ w.cell? ⟨k15, 2, none⟩ = some (.int .i64 n76_2) ∧ w.cell? ⟨k15, 3, none⟩ = some (.int .i64 n76_3) ∧ w.cell? ⟨k15, 4, none⟩ = some (.int .i64 n76_4) ∧ w.cell? ⟨k15, 5, none⟩ = some (.int .i64 n76_5) ∧ w.cell? ⟨k15, 6, none⟩ = some (.bool b76_6) ∧ w.cell? ⟨k15, 7, none⟩ = some (.int .i64 n76_7) ∧ w.cell? ⟨k15, 8, none⟩ = some (.int .i64 n76_8) ∧ w.cell? ⟨k15, 9, none⟩ = some (.int .i64 n76_9)) ∧
  Calls Try.prog 34 #[.int .u64 n0, .int .u64 (IntKind.u64.wrap ((Int.tmod n1 1152921504606846976) + 1)), .int .u8 n3] w23 fun e_12 w24 => ∃ n81_0 : Int, ∃ n81_1 : Int, ∃ n81_2 : Int, ∃ n81_3 : Int, ∃ n81_4 : Int, ∃ n81_5 : Int, ∃ b81_6 : Bool, ∃ n81_7 : Int, ∃ n81_8 : Int, ∃ n81_9 : Int, e_12 = .returned (.agg #[.int .u64 n81_0, .int .u64 n81_1, .int .i64 n81_2, .int .i64 n81_3, .int .i64 n81_4, .int .i64 n81_5, .bool b81_6, .int .i64 n81_7, .int .i64 n81_8, .int .i64 n81_9]) ∧
  D w24 ∧
  ∃ b82 : Bool, (∀ x0, x0 = w24 → (do eqGuard .eql 58 (.tmp 76) (.tmp 81) (.agg #[.int .u64 n76_0, .int .u64 n76_1, .int .i64 n76_2, .int .i64 n76_3, .int .i64 n76_4, .int .i64 n76_5, .bool b76_6, .int .i64 n76_7, .int .i64 n76_8, .int .i64 n76_9]) (.agg #[.int .u64 n81_0, .int .u64 n81_1, .int .i64 n81_2, .int .i64 n81_3, .int .i64 n81_4, .int .i64 n81_5, .bool b81_6, .int .i64 n81_7, .int .i64 n81_8, .int .i64 n81_9]); binOp .eql 58 (.agg #[.int .u64 n76_0, .int .u64 n76_1, .int .i64 n76_2, .int .i64 n76_3, .int .i64 n76_4, .int .i64 n76_5, .bool b76_6, .int .i64 n76_7, .int .i64 n76_8, .int .i64 n76_9]) (.agg #[.int .u64 n81_0, .int .u64 n81_1, .int .i64 n81_2, .int .i64 n81_3, .int .i64 n81_4, .int .i64 n81_5, .bool b81_6, .int .i64 n81_7, .int .i64 n81_8, .int .i64 n81_9]) : Sem Value).run Try.prog x0 = .ok (.bool b82) x0) ∧
  R (.bool b82) w24)) ∧
  ((n63_1 == 0) = false →
  R (.bool false) w22.drew)))))))
theorem revetmentlaw09_SlotsCrash_eq (n0 : Int) (n1 : Int) (n2 : Int) (n3 : Int) (p4 : Option Addr) (l4 c4 : Nat) (w : World) (R : Value → World → Prop) : revetmentlaw09_SlotsCrash n0 n1 n2 n3 p4 l4 c4 w R = fnP Try.prog Try.f9 .o [.int .u64 n0, .int .u64 n1, .int .u8 n2, .int .u8 n3, .slice p4 l4 c4] w R := by kernel_rfl
theorem revetmentlaw09_SlotsCrash_calls {n0 : Int} {n1 : Int} {n2 : Int} {n3 : Int} {p4 : Option Addr} {l4 c4 : Nat} {w : World} {R : Value → World → Prop} (h : revetmentlaw09_SlotsCrash n0 n1 n2 n3 p4 l4 c4 w R) : Calls Try.prog 9 #[.int .u64 n0, .int .u64 n1, .int .u8 n2, .int .u8 n3, .slice p4 l4 c4] w fun e w1 => ∃ v, e = .returned v ∧ R v w1 := fnP_calls callable Try.func9 (revetmentlaw09_SlotsCrash_eq n0 n1 n2 n3 p4 l4 c4 w R ▸ h)

/-- revetment/revetmentlaw09.SlotsNext -/
def revetmentlaw09_SlotsNext (n0 : Int) (n1 : Int) (p2 : Option Addr) (l2 c2 : Nat) (b3 : Bool) (w : World) (R : Value → World → Prop) : Prop :=
  ((decide ((l2 : Int) > 60)) = true →
  Calls Try.prog 32 #[] w fun e w1 => ∃ b33 : Bool, e = .returned (.bool b33) ∧
  R (.bool b33) w1) ∧
  ((decide ((l2 : Int) > 60)) = false →
  (((l2 : Int) == 0) = true →
  Calls Try.prog 32 #[] w fun e_1 w2 => ∃ b33_1 : Bool, e_1 = .returned (.bool b33_1) ∧
  R (.bool b33_1) w2) ∧
  (((l2 : Int) == 0) = false →
  Calls Try.prog 32 #[] w fun e_2 w3 => ∃ b30 : Bool, e_2 = .returned (.bool b30) ∧
  ((!b30) = true →
  Calls Try.prog 32 #[] w3 fun e_3 w4 => ∃ b33_2 : Bool, e_3 = .returned (.bool b33_2) ∧
  R (.bool b33_2) w4) ∧
  ((!b30) = false →
  Calls Try.prog 13 #[.int .i64 2] w3 fun e_4 w5 => ∃ p34 : Option Addr, e_4 = .returned (.pointer p34) ∧
  ((Option.isNone p34) = true →
  R (.bool false) w5) ∧
  ((Option.isNone p34) = false →
  Alloc #[.int .u64 0, .int .u64 0, .int .i64 0, .int .i64 0, .int .i64 0, .int .i64 0, .bool false, .int .i64 0, .int .i64 0, .int .i64 0] 58 w5 fun k10 w6 =>
  St ⟨k10, 0, none⟩ (.int .u64 0) w6 fun w7 =>
  St ⟨k10, 1, none⟩ (.int .u64 0) w7 fun w8 =>
  St ⟨k10, 2, none⟩ (.int .i64 0) w8 fun w9 =>
  St ⟨k10, 3, none⟩ (.int .i64 0) w9 fun w10 =>
  St ⟨k10, 4, none⟩ (.int .i64 0) w10 fun w11 =>
  St ⟨k10, 5, none⟩ (.int .i64 0) w11 fun w12 =>
  St ⟨k10, 6, none⟩ (.bool false) w12 fun w13 =>
  St ⟨k10, 7, none⟩ (.int .i64 0) w13 fun w14 =>
  St ⟨k10, 8, none⟩ (.int .i64 0) w14 fun w15 =>
  St ⟨k10, 9, none⟩ (.int .i64 0) w15 fun w16 =>
  LoopP (fun I => I [.int .u64 (Int.tmod n1 1152921504606846976), .int .i64 0] w16) fun K vs w17 => ∃ n11 : Int, ∃ n12 : Int, vs = [.int .u64 n11, .int .i64 n12] ∧
  ((decide (n12 < (l2 : Int))) = true →
  ∃ a52 : Addr, p2 = some a52 ∧ (0 : Int) ≤ n12 ∧ n12 < (l2 : Int) ∧
  ∃ n53 : Int, w17.cell? (Addr.add a52 (n12.toNat * 1)) = some (.int .u8 n53) ∧
  Calls Try.prog 34 #[.int .u64 n0, .int .u64 n11, .int .u8 n53] w17 fun e_5 w18 => ∃ n54_0 : Int, ∃ n54_1 : Int, ∃ n54_2 : Int, ∃ n54_3 : Int, ∃ n54_4 : Int, ∃ n54_5 : Int, ∃ b54_6 : Bool, ∃ n54_7 : Int, ∃ n54_8 : Int, ∃ n54_9 : Int, e_5 = .returned (.agg #[.int .u64 n54_0, .int .u64 n54_1, .int .i64 n54_2, .int .i64 n54_3, .int .i64 n54_4, .int .i64 n54_5, .bool b54_6, .int .i64 n54_7, .int .i64 n54_8, .int .i64 n54_9]) ∧
  Calls Try.prog 37 #[.pointer p34, .agg #[.int .u64 n54_0, .int .u64 n54_1, .int .i64 n54_2, .int .i64 n54_3, .int .i64 n54_4, .int .i64 n54_5, .bool b54_6, .int .i64 n54_7, .int .i64 n54_8, .int .i64 n54_9]] w18 fun e_6 w19 => ∃ n55_0_0 : Int, ∃ n55_0_1 : Int, ∃ n55_0_2 : Int, ∃ n55_0_3 : Int, ∃ n55_0_4 : Int, ∃ n55_0_5 : Int, ∃ b55_0_6 : Bool, ∃ n55_0_7 : Int, ∃ n55_0_8 : Int, ∃ n55_0_9 : Int, ∃ n55_1 : Int, e_6 = .returned (.tuple #[.agg #[.int .u64 n55_0_0, .int .u64 n55_0_1, .int .i64 n55_0_2, .int .i64 n55_0_3, .int .i64 n55_0_4, .int .i64 n55_0_5, .bool b55_0_6, .int .i64 n55_0_7, .int .i64 n55_0_8, .int .i64 n55_0_9], .int .i64 n55_1]) ∧
  Alloc #[.int .u64 0, .int .u64 0, .int .i64 0, .int .i64 0, .int .i64 0, .int .i64 0, .bool false, .int .i64 0, .int .i64 0, .int .i64 0] 58 w19 fun k13 w20 =>
  St ⟨k13, 0, none⟩ (.int .u64 n55_0_0) w20 fun w21 =>
  St ⟨k13, 1, none⟩ (.int .u64 n55_0_1) w21 fun w22 =>
  St ⟨k13, 2, none⟩ (.int .i64 n55_0_2) w22 fun w23 =>
  St ⟨k13, 3, none⟩ (.int .i64 n55_0_3) w23 fun w24 =>
  St ⟨k13, 4, none⟩ (.int .i64 n55_0_4) w24 fun w25 =>
  St ⟨k13, 5, none⟩ (.int .i64 n55_0_5) w25 fun w26 =>
  St ⟨k13, 6, none⟩ (.bool b55_0_6) w26 fun w27 =>
  St ⟨k13, 7, none⟩ (.int .i64 n55_0_7) w27 fun w28 =>
  St ⟨k13, 8, none⟩ (.int .i64 n55_0_8) w28 fun w29 =>
  St ⟨k13, 9, none⟩ (.int .i64 n55_0_9) w29 fun w30 =>
  ∃ D : World → Prop, D w30.drew ∧
  ((n55_1 != 0) = true →
  R (.bool false) w30.drew) ∧
  ((n55_1 != 0) = false →
  ∃ n63_0 : Int, ∃ n63_1 : Int, ∃ n63_2 : Int, ∃ n63_3 : Int, ∃ n63_4 : Int, ∃ n63_5 : Int, ∃ b63_6 : Bool, ∃ n63_7 : Int, ∃ n63_8 : Int, ∃ n63_9 : Int, (∀ w, D w → w.cell? ⟨k13, 0, none⟩ = some (.int .u64 n63_0) ∧ w.cell? ⟨k13, 1, none⟩ = some (.int .u64 n63_1) ∧ w.cell? ⟨k13, 2, none⟩ = some (.int .i64 n63_2) ∧ w.cell? ⟨k13, 3, none⟩ = some (.int .i64 n63_3) ∧ w.cell? ⟨k13, 4, none⟩ = some (.int .i64 n63_4) ∧ w.cell? ⟨k13, 5, none⟩ = some (.int .i64 n63_5) ∧ w.cell? ⟨k13, 6, none⟩ = some (.bool b63_6) ∧ w.cell? ⟨k13, 7, none⟩ = some (.int .i64 n63_7) ∧ w.cell? ⟨k13, 8, none⟩ = some (.int .i64 n63_8) ∧ w.cell? ⟨k13, 9, none⟩ = some (.int .i64 n63_9)) ∧
  ∃ a68 : Addr, p2 = some a68 ∧ (0 : Int) ≤ n12 ∧ n12 < (l2 : Int) ∧
  ∃ n69 : Int, (∀ w, D w → w.cell? (Addr.add a68 (n12.toNat * 1)) = some (.int .u8 n69)) ∧
  Calls Try.prog 34 #[.int .u64 n0, .int .u64 (IntKind.u64.wrap (n11 + 1)), .int .u8 n69] w30.drew fun e_7 w31 => ∃ n70_0 : Int, ∃ n70_1 : Int, ∃ n70_2 : Int, ∃ n70_3 : Int, ∃ n70_4 : Int, ∃ n70_5 : Int, ∃ b70_6 : Bool, ∃ n70_7 : Int, ∃ n70_8 : Int, ∃ n70_9 : Int, e_7 = .returned (.agg #[.int .u64 n70_0, .int .u64 n70_1, .int .i64 n70_2, .int .i64 n70_3, .int .i64 n70_4, .int .i64 n70_5, .bool b70_6, .int .i64 n70_7, .int .i64 n70_8, .int .i64 n70_9]) ∧
  D w31 ∧
  ∃ b71 : Bool, (∀ x0, x0 = w31 → (do eqGuard .neq 58 (.tmp 63) (.tmp 70) (.agg #[.int .u64 n63_0, .int .u64 n63_1, .int .i64 n63_2, .int .i64 n63_3, .int .i64 n63_4, .int .i64 n63_5, .bool b63_6, .int .i64 n63_7, .int .i64 n63_8, .int .i64 n63_9]) (.agg #[.int .u64 n70_0, .int .u64 n70_1, .int .i64 n70_2, .int .i64 n70_3, .int .i64 n70_4, .int .i64 n70_5, .bool b70_6, .int .i64 n70_7, .int .i64 n70_8, .int .i64 n70_9]); binOp .neq 58 (.agg #[.int .u64 n63_0, .int .u64 n63_1, .int .i64 n63_2, .int .i64 n63_3, .int .i64 n63_4, .int .i64 n63_5, .bool b63_6, .int .i64 n63_7, .int .i64 n63_8, .int .i64 n63_9]) (.agg #[.int .u64 n70_0, .int .u64 n70_1, .int .i64 n70_2, .int .i64 n70_3, .int .i64 n70_4, .int .i64 n70_5, .bool b70_6, .int .i64 n70_7, .int .i64 n70_8, .int .i64 n70_9]) : Sem Value).run Try.prog x0 = .ok (.bool b71) x0) ∧
  (b71 = true →
  R (.bool false) w31) ∧
  (b71 = false →
  Calls Try.prog 33 #[.pointer p34] w31 fun e_8 w32 => ∃ n75_0_0 : Int, ∃ n75_0_1 : Int, ∃ n75_0_2 : Int, ∃ n75_0_3 : Int, ∃ n75_0_4 : Int, ∃ n75_0_5 : Int, ∃ b75_0_6 : Bool, ∃ n75_0_7 : Int, ∃ n75_0_8 : Int, ∃ n75_0_9 : Int, ∃ n75_1 : Int, e_8 = .returned (.tuple #[.agg #[.int .u64 n75_0_0, .int .u64 n75_0_1, .int .i64 n75_0_2, .int .i64 n75_0_3, .int .i64 n75_0_4, .int .i64 n75_0_5, .bool b75_0_6, .int .i64 n75_0_7, .int .i64 n75_0_8, .int .i64 n75_0_9], .int .i64 n75_1]) ∧
  Alloc #[.int .u64 0, .int .u64 0, .int .i64 0, .int .i64 0, .int .i64 0, .int .i64 0, .bool false, .int .i64 0, .int .i64 0, .int .i64 0] 58 w32 fun k15 w33 =>
  St ⟨k15, 0, none⟩ (.int .u64 n75_0_0) w33 fun w34 =>
  St ⟨k15, 1, none⟩ (.int .u64 n75_0_1) w34 fun w35 =>
  St ⟨k15, 2, none⟩ (.int .i64 n75_0_2) w35 fun w36 =>
  St ⟨k15, 3, none⟩ (.int .i64 n75_0_3) w36 fun w37 =>
  St ⟨k15, 4, none⟩ (.int .i64 n75_0_4) w37 fun w38 =>
  St ⟨k15, 5, none⟩ (.int .i64 n75_0_5) w38 fun w39 =>
  St ⟨k15, 6, none⟩ (.bool b75_0_6) w39 fun w40 =>
  St ⟨k15, 7, none⟩ (.int .i64 n75_0_7) w40 fun w41 =>
  St ⟨k15, 8, none⟩ (.int .i64 n75_0_8) w41 fun w42 =>
  St ⟨k15, 9, none⟩ (.int .i64 n75_0_9) w42 fun w43 =>
  Calls Try.prog 38 #[.pointer p34] w43 fun e_9 w44 => ∃ n80_0_0 : Int, ∃ n80_0_1 : Int, ∃ n80_0_2 : Int, ∃ n80_0_3 : Int, ∃ n80_0_4 : Int, ∃ n80_0_5 : Int, ∃ b80_0_6 : Bool, ∃ n80_0_7 : Int, ∃ n80_0_8 : Int, ∃ n80_0_9 : Int, ∃ n80_0_10 : Int, ∃ n80_0_11 : Int, ∃ n80_0_12 : Int, ∃ n80_0_13 : Int, ∃ n80_0_14 : Int, ∃ n80_0_15 : Int, ∃ b80_0_16 : Bool, ∃ n80_0_17 : Int, ∃ n80_0_18 : Int, ∃ n80_0_19 : Int, ∃ b80_1_0 : Bool, ∃ b80_1_1 : Bool, e_9 = .returned (.tuple #[.agg #[.int .u64 n80_0_0, .int .u64 n80_0_1, .int .i64 n80_0_2, .int .i64 n80_0_3, .int .i64 n80_0_4, .int .i64 n80_0_5, .bool b80_0_6, .int .i64 n80_0_7, .int .i64 n80_0_8, .int .i64 n80_0_9, .int .u64 n80_0_10, .int .u64 n80_0_11, .int .i64 n80_0_12, .int .i64 n80_0_13, .int .i64 n80_0_14, .int .i64 n80_0_15, .bool b80_0_16, .int .i64 n80_0_17, .int .i64 n80_0_18, .int .i64 n80_0_19], .agg #[.bool b80_1_0, .bool b80_1_1]]) ∧
  Alloc #[.int .u64 0, .int .u64 0, .int .i64 0, .int .i64 0, .int .i64 0, .int .i64 0, .bool false, .int .i64 0, .int .i64 0, .int .i64 0, .int .u64 0, .int .u64 0, .int .i64 0, .int .i64 0, .int .i64 0, .int .i64 0, .bool false, .int .i64 0, .int .i64 0, .int .i64 0] 67 w44 fun k17 w45 =>
  Alloc #[.bool false, .bool false] 68 w45 fun k18 w46 =>
  St ⟨k17, 0, none⟩ (.int .u64 n80_0_0) w46 fun w47 =>
  St ⟨k17, 1, none⟩ (.int .u64 n80_0_1) w47 fun w48 =>
  St ⟨k17, 2, none⟩ (.int .i64 n80_0_2) w48 fun w49 =>
  St ⟨k17, 3, none⟩ (.int .i64 n80_0_3) w49 fun w50 =>
  St ⟨k17, 4, none⟩ (.int .i64 n80_0_4) w50 fun w51 =>
  St ⟨k17, 5, none⟩ (.int .i64 n80_0_5) w51 fun w52 =>
  St ⟨k17, 6, none⟩ (.bool b80_0_6) w52 fun w53 =>
  St ⟨k17, 7, none⟩ (.int .i64 n80_0_7) w53 fun w54 =>
  St ⟨k17, 8, none⟩ (.int .i64 n80_0_8) w54 fun w55 =>
  St ⟨k17, 9, none⟩ (.int .i64 n80_0_9) w55 fun w56 =>
  St ⟨k17, 10, none⟩ (.int .u64 n80_0_10) w56 fun w57 =>
  St ⟨k17, 11, none⟩ (.int .u64 n80_0_11) w57 fun w58 =>
  St ⟨k17, 12, none⟩ (.int .i64 n80_0_12) w58 fun w59 =>
  St ⟨k17, 13, none⟩ (.int .i64 n80_0_13) w59 fun w60 =>
  St ⟨k17, 14, none⟩ (.int .i64 n80_0_14) w60 fun w61 =>
  St ⟨k17, 15, none⟩ (.int .i64 n80_0_15) w61 fun w62 =>
  St ⟨k17, 16, none⟩ (.bool b80_0_16) w62 fun w63 =>
  St ⟨k17, 17, none⟩ (.int .i64 n80_0_17) w63 fun w64 =>
  St ⟨k17, 18, none⟩ (.int .i64 n80_0_18) w64 fun w65 =>
  St ⟨k17, 19, none⟩ (.int .i64 n80_0_19) w65 fun w66 =>
  St ⟨k18, 0, none⟩ (.bool b80_1_0) w66 fun w67 =>
  St ⟨k18, 1, none⟩ (.bool b80_1_1) w67 fun w68 =>
  Join (fun vs_1 w69 => vs_1 = [] ∧
  ((n12 == (IntKind.i64.wrap ((l2 : Int) - 1))) = true →
  ((decide (n12 > 0)) = true →
  (b3 = true →
  Calls Try.prog 21 #[.pointer p34, .int .i64 (IntKind.i64.wrap (Int.tmod (IntKind.u64.wrap (n11 + 1)) 2))] w69 fun e_10 w70 => ∃ n132 : Int, e_10 = .returned (.int .i64 n132) ∧
  Calls Try.prog 33 #[.pointer p34] w70 fun e_11 w71 => ∃ n135_0_0 : Int, ∃ n135_0_1 : Int, ∃ n135_0_2 : Int, ∃ n135_0_3 : Int, ∃ n135_0_4 : Int, ∃ n135_0_5 : Int, ∃ b135_0_6 : Bool, ∃ n135_0_7 : Int, ∃ n135_0_8 : Int, ∃ n135_0_9 : Int, ∃ n135_1 : Int, e_11 = .returned (.tuple #[.agg #[.int .u64 n135_0_0, .int .u64 n135_0_1, .int .i64 n135_0_2, .int .i64 n135_0_3, .int .i64 n135_0_4, .int .i64 n135_0_5, .bool b135_0_6, .int .i64 n135_0_7, .int .i64 n135_0_8, .int .i64 n135_0_9], .int .i64 n135_1]) ∧
  Alloc #[.int .u64 0, .int .u64 0, .int .i64 0, .int .i64 0, .int .i64 0, .int .i64 0, .bool false, .int .i64 0, .int .i64 0, .int .i64 0] 58 w71 fun k19 w72 =>
  St ⟨k19, 0, none⟩ (.int .u64 n135_0_0) w72 fun w73 =>
  St ⟨k19, 1, none⟩ (.int .u64 n135_0_1) w73 fun w74 =>
  St ⟨k19, 2, none⟩ (.int .i64 n135_0_2) w74 fun w75 =>
  St ⟨k19, 3, none⟩ (.int .i64 n135_0_3) w75 fun w76 =>
  St ⟨k19, 4, none⟩ (.int .i64 n135_0_4) w76 fun w77 =>
  St ⟨k19, 5, none⟩ (.int .i64 n135_0_5) w77 fun w78 =>
  St ⟨k19, 6, none⟩ (.bool b135_0_6) w78 fun w79 =>
  St ⟨k19, 7, none⟩ (.int .i64 n135_0_7) w79 fun w80 =>
  St ⟨k19, 8, none⟩ (.int .i64 n135_0_8) w80 fun w81 =>
  St ⟨k19, 9, none⟩ (.int .i64 n135_0_9) w81 fun w82 =>
  ((n135_1 == 0) = true →
  ∃ n141_0 : Int, ∃ n141_1 : Int, ∃ n141_2 : Int, ∃ n141_3 : Int, ∃ n141_4 : Int, ∃ n141_5 : Int, ∃ b141_6 : Bool, ∃ n141_7 : Int, ∃ n141_8 : Int, ∃ n141_9 : Int, (w82.cell? ⟨k19, 0, none⟩ = some (.int .u64 n141_0) ∧ w82.cell? ⟨k19, 1, none⟩ = some (.int .u64 n141_1) ∧ w82.cell? ⟨k19, 2, none⟩ = some (.int .i64 n141_2) ∧ w82.cell? ⟨k19, 3, none⟩ = some (.int .i64 n141_3) ∧ w82.cell? ⟨k19, 4, none⟩ = some (.int .i64 n141_4) ∧ w82.cell? ⟨k19, 5, none⟩ = some (.int .i64 n141_5) ∧ w82.cell? ⟨k19, 6, none⟩ = some (.bool b141_6) ∧ w82.cell? ⟨k19, 7, none⟩ = some (.int .i64 n141_7) ∧ w82.cell? ⟨k19, 8, none⟩ = some (.int .i64 n141_8) ∧ w82.cell? ⟨k19, 9, none⟩ = some (.int .i64 n141_9)) ∧
  ∃ n142_0 : Int, ∃ n142_1 : Int, ∃ n142_2 : Int, ∃ n142_3 : Int, ∃ n142_4 : Int, ∃ n142_5 : Int, ∃ b142_6 : Bool, ∃ n142_7 : Int, ∃ n142_8 : Int, ∃ n142_9 : Int, (w82.cell? ⟨k10, 0, none⟩ = some (.int .u64 n142_0) ∧ w82.cell? ⟨k10, 1, none⟩ = some (.int .u64 n142_1) ∧ w82.cell? ⟨k10, 2, none⟩ = some (.int .i64 n142_2) ∧ w82.cell? ⟨k10, 3, none⟩ = some (.int .i64 n142_3) ∧ w82.cell? ⟨k10, 4, none⟩ = some (.int .i64 n142_4) ∧ w82.cell? ⟨k10, 5, none⟩ = some (.int .i64 n142_5) ∧ w82.cell? ⟨k10, 6, none⟩ = some (.bool b142_6) ∧ w82.cell? ⟨k10, 7, none⟩ = some (.int .i64 n142_7) ∧ w82.cell? ⟨k10, 8, none⟩ = some (.int .i64 n142_8) ∧ w82.cell? ⟨k10, 9, none⟩ = some (.int .i64 n142_9)) ∧
  ∃ b143 : Bool, ∃ w83, (do eqGuard .eql 58 (.tmp 141) (.tmp 142) (.agg #[.int .u64 n141_0, .int .u64 n141_1, .int .i64 n141_2, .int .i64 n141_3, .int .i64 n141_4, .int .i64 n141_5, .bool b141_6, .int .i64 n141_7, .int .i64 n141_8, .int .i64 n141_9]) (.agg #[.int .u64 n142_0, .int .u64 n142_1, .int .i64 n142_2, .int .i64 n142_3, .int .i64 n142_4, .int .i64 n142_5, .bool b142_6, .int .i64 n142_7, .int .i64 n142_8, .int .i64 n142_9]); binOp .eql 58 (.agg #[.int .u64 n141_0, .int .u64 n141_1, .int .i64 n141_2, .int .i64 n141_3, .int .i64 n141_4, .int .i64 n141_5, .bool b141_6, .int .i64 n141_7, .int .i64 n141_8, .int .i64 n141_9]) (.agg #[.int .u64 n142_0, .int .u64 n142_1, .int .i64 n142_2, .int .i64 n142_3, .int .i64 n142_4, .int .i64 n142_5, .bool b142_6, .int .i64 n142_7, .int .i64 n142_8, .int .i64 n142_9]) : Sem Value).run Try.prog w82 = .ok (.bool b143) w83 ∧
  R (.bool b143) w83) ∧
  ((n135_1 == 0) = false →
  R (.bool false) w82)) ∧
  (b3 = false →
  ∃ n145_0 : Int, ∃ n145_1 : Int, ∃ n145_2 : Int, ∃ n145_3 : Int, ∃ n145_4 : Int, ∃ n145_5 : Int, ∃ b145_6 : Bool, ∃ n145_7 : Int, ∃ n145_8 : Int, ∃ n145_9 : Int, (w69.cell? ⟨k13, 0, none⟩ = some (.int .u64 n145_0) ∧ w69.cell? ⟨k13, 1, none⟩ = some (.int .u64 n145_1) ∧ w69.cell? ⟨k13, 2, none⟩ = some (.int .i64 n145_2) ∧ w69.cell? ⟨k13, 3, none⟩ = some (.int .i64 n145_3) ∧ w69.cell? ⟨k13, 4, none⟩ = some (.int .i64 n145_4) ∧ w69.cell? ⟨k13, 5, none⟩ = some (.int .i64 n145_5) ∧ w69.cell? ⟨k13, 6, none⟩ = some (.bool b145_6) ∧ w69.cell? ⟨k13, 7, none⟩ = some (.int .i64 n145_7) ∧ w69.cell? ⟨k13, 8, none⟩ = some (.int .i64 n145_8) ∧ w69.cell? ⟨k13, 9, none⟩ = some (.int .i64 n145_9)) ∧
  St ⟨k10, 0, none⟩ (.int .u64 n145_0) w69 fun w84 =>
  St ⟨k10, 1, none⟩ (.int .u64 n145_1) w84 fun w85 =>
  St ⟨k10, 2, none⟩ (.int .i64 n145_2) w85 fun w86 =>
  St ⟨k10, 3, none⟩ (.int .i64 n145_3) w86 fun w87 =>
  St ⟨k10, 4, none⟩ (.int .i64 n145_4) w87 fun w88 =>
  St ⟨k10, 5, none⟩ (.int .i64 n145_5) w88 fun w89 =>
  St ⟨k10, 6, none⟩ (.bool b145_6) w89 fun w90 =>
  St ⟨k10, 7, none⟩ (.int .i64 n145_7) w90 fun w91 =>
  St ⟨k10, 8, none⟩ (.int .i64 n145_8) w91 fun w92 =>
  St ⟨k10, 9, none⟩ (.int .i64 n145_9) w92 fun w93 =>
  K [.int .u64 (IntKind.u64.wrap (n11 + 1)), .int .i64 (IntKind.i64.wrap (n12 + 1))] w93)) ∧
  ((decide (n12 > 0)) = false →
  ∃ n145_0_1 : Int, ∃ n145_1_1 : Int, ∃ n145_2_1 : Int, ∃ n145_3_1 : Int, ∃ n145_4_1 : Int, ∃ n145_5_1 : Int, ∃ b145_6_1 : Bool, ∃ n145_7_1 : Int, ∃ n145_8_1 : Int, ∃ n145_9_1 : Int, (w69.cell? ⟨k13, 0, none⟩ = some (.int .u64 n145_0_1) ∧ w69.cell? ⟨k13, 1, none⟩ = some (.int .u64 n145_1_1) ∧ w69.cell? ⟨k13, 2, none⟩ = some (.int .i64 n145_2_1) ∧ w69.cell? ⟨k13, 3, none⟩ = some (.int .i64 n145_3_1) ∧ w69.cell? ⟨k13, 4, none⟩ = some (.int .i64 n145_4_1) ∧ w69.cell? ⟨k13, 5, none⟩ = some (.int .i64 n145_5_1) ∧ w69.cell? ⟨k13, 6, none⟩ = some (.bool b145_6_1) ∧ w69.cell? ⟨k13, 7, none⟩ = some (.int .i64 n145_7_1) ∧ w69.cell? ⟨k13, 8, none⟩ = some (.int .i64 n145_8_1) ∧ w69.cell? ⟨k13, 9, none⟩ = some (.int .i64 n145_9_1)) ∧
  St ⟨k10, 0, none⟩ (.int .u64 n145_0_1) w69 fun w94 =>
  St ⟨k10, 1, none⟩ (.int .u64 n145_1_1) w94 fun w95 =>
  St ⟨k10, 2, none⟩ (.int .i64 n145_2_1) w95 fun w96 =>
  St ⟨k10, 3, none⟩ (.int .i64 n145_3_1) w96 fun w97 =>
  St ⟨k10, 4, none⟩ (.int .i64 n145_4_1) w97 fun w98 =>
  St ⟨k10, 5, none⟩ (.int .i64 n145_5_1) w98 fun w99 =>
  St ⟨k10, 6, none⟩ (.bool b145_6_1) w99 fun w100 =>
  St ⟨k10, 7, none⟩ (.int .i64 n145_7_1) w100 fun w101 =>
  St ⟨k10, 8, none⟩ (.int .i64 n145_8_1) w101 fun w102 =>
  St ⟨k10, 9, none⟩ (.int .i64 n145_9_1) w102 fun w103 =>
  K [.int .u64 (IntKind.u64.wrap (n11 + 1)), .int .i64 (IntKind.i64.wrap (n12 + 1))] w103)) ∧
  ((n12 == (IntKind.i64.wrap ((l2 : Int) - 1))) = false →
  ∃ n145_0_2 : Int, ∃ n145_1_2 : Int, ∃ n145_2_2 : Int, ∃ n145_3_2 : Int, ∃ n145_4_2 : Int, ∃ n145_5_2 : Int, ∃ b145_6_2 : Bool, ∃ n145_7_2 : Int, ∃ n145_8_2 : Int, ∃ n145_9_2 : Int, (w69.cell? ⟨k13, 0, none⟩ = some (.int .u64 n145_0_2) ∧ w69.cell? ⟨k13, 1, none⟩ = some (.int .u64 n145_1_2) ∧ w69.cell? ⟨k13, 2, none⟩ = some (.int .i64 n145_2_2) ∧ w69.cell? ⟨k13, 3, none⟩ = some (.int .i64 n145_3_2) ∧ w69.cell? ⟨k13, 4, none⟩ = some (.int .i64 n145_4_2) ∧ w69.cell? ⟨k13, 5, none⟩ = some (.int .i64 n145_5_2) ∧ w69.cell? ⟨k13, 6, none⟩ = some (.bool b145_6_2) ∧ w69.cell? ⟨k13, 7, none⟩ = some (.int .i64 n145_7_2) ∧ w69.cell? ⟨k13, 8, none⟩ = some (.int .i64 n145_8_2) ∧ w69.cell? ⟨k13, 9, none⟩ = some (.int .i64 n145_9_2)) ∧
  St ⟨k10, 0, none⟩ (.int .u64 n145_0_2) w69 fun w104 =>
  St ⟨k10, 1, none⟩ (.int .u64 n145_1_2) w104 fun w105 =>
  St ⟨k10, 2, none⟩ (.int .i64 n145_2_2) w105 fun w106 =>
  St ⟨k10, 3, none⟩ (.int .i64 n145_3_2) w106 fun w107 =>
  St ⟨k10, 4, none⟩ (.int .i64 n145_4_2) w107 fun w108 =>
  St ⟨k10, 5, none⟩ (.int .i64 n145_5_2) w108 fun w109 =>
  St ⟨k10, 6, none⟩ (.bool b145_6_2) w109 fun w110 =>
  St ⟨k10, 7, none⟩ (.int .i64 n145_7_2) w110 fun w111 =>
  St ⟨k10, 8, none⟩ (.int .i64 n145_8_2) w111 fun w112 =>
  St ⟨k10, 9, none⟩ (.int .i64 n145_9_2) w112 fun w113 =>
  K [.int .u64 (IntKind.u64.wrap (n11 + 1)), .int .i64 (IntKind.i64.wrap (n12 + 1))] w113)) fun J =>
  ((n75_1 != 0) = true →
  R (.bool false) w68) ∧
  ((n75_1 != 0) = false →
  ∃ n86_0 : Int, ∃ n86_1 : Int, ∃ n86_2 : Int, ∃ n86_3 : Int, ∃ n86_4 : Int, ∃ n86_5 : Int, ∃ b86_6 : Bool, ∃ n86_7 : Int, ∃ n86_8 : Int, ∃ n86_9 : Int, (w68.cell? ⟨k15, 0, none⟩ = some (.int .u64 n86_0) ∧ w68.cell? ⟨k15, 1, none⟩ = some (.int .u64 n86_1) ∧ w68.cell? ⟨k15, 2, none⟩ = some (.int .i64 n86_2) ∧ w68.cell? ⟨k15, 3, none⟩ = some (.int .i64 n86_3) ∧ w68.cell? ⟨k15, 4, none⟩ = some (.int .i64 n86_4) ∧ w68.cell? ⟨k15, 5, none⟩ = some (.int .i64 n86_5) ∧ w68.cell? ⟨k15, 6, none⟩ = some (.bool b86_6) ∧ w68.cell? ⟨k15, 7, none⟩ = some (.int .i64 n86_7) ∧ w68.cell? ⟨k15, 8, none⟩ = some (.int .i64 n86_8) ∧ w68.cell? ⟨k15, 9, none⟩ = some (.int .i64 n86_9)) ∧
  ∃ n87_0 : Int, ∃ n87_1 : Int, ∃ n87_2 : Int, ∃ n87_3 : Int, ∃ n87_4 : Int, ∃ n87_5 : Int, ∃ b87_6 : Bool, ∃ n87_7 : Int, ∃ n87_8 : Int, ∃ n87_9 : Int, (w68.cell? ⟨k13, 0, none⟩ = some (.int .u64 n87_0) ∧ w68.cell? ⟨k13, 1, none⟩ = some (.int .u64 n87_1) ∧ w68.cell? ⟨k13, 2, none⟩ = some (.int .i64 n87_2) ∧ w68.cell? ⟨k13, 3, none⟩ = some (.int .i64 n87_3) ∧ w68.cell? ⟨k13, 4, none⟩ = some (.int .i64 n87_4) ∧ w68.cell? ⟨k13, 5, none⟩ = some (.int .i64 n87_5) ∧ w68.cell? ⟨k13, 6, none⟩ = some (.bool b87_6) ∧ w68.cell? ⟨k13, 7, none⟩ = some (.int .i64 n87_7) ∧ w68.cell? ⟨k13, 8, none⟩ = some (.int .i64 n87_8) ∧ w68.cell? ⟨k13, 9, none⟩ = some (.int .i64 n87_9)) ∧
  ∃ b88 : Bool, ∃ w114, (do eqGuard .neq 58 (.tmp 86) (.tmp 87) (.agg #[.int .u64 n86_0, .int .u64 n86_1, .int .i64 n86_2, .int .i64 n86_3, .int .i64 n86_4, .int .i64 n86_5, .bool b86_6, .int .i64 n86_7, .int .i64 n86_8, .int .i64 n86_9]) (.agg #[.int .u64 n87_0, .int .u64 n87_1, .int .i64 n87_2, .int .i64 n87_3, .int .i64 n87_4, .int .i64 n87_5, .bool b87_6, .int .i64 n87_7, .int .i64 n87_8, .int .i64 n87_9]); binOp .neq 58 (.agg #[.int .u64 n86_0, .int .u64 n86_1, .int .i64 n86_2, .int .i64 n86_3, .int .i64 n86_4, .int .i64 n86_5, .bool b86_6, .int .i64 n86_7, .int .i64 n86_8, .int .i64 n86_9]) (.agg #[.int .u64 n87_0, .int .u64 n87_1, .int .i64 n87_2, .int .i64 n87_3, .int .i64 n87_4, .int .i64 n87_5, .bool b87_6, .int .i64 n87_7, .int .i64 n87_8, .int .i64 n87_9]) : Sem Value).run Try.prog w68 = .ok (.bool b88) w114 ∧
  (b88 = true →
  R (.bool false) w114) ∧
  (b88 = false →
  ((decide (n12 > 0)) = true →
  (0 : Int) ≤ 0 ∧ 0 < (2 : Int) ∧
  ∃ b95 : Bool, w114.cell? ⟨k18, 0, none⟩ = some (.bool b95) ∧
  ((!b95) = true →
  R (.bool false) w114) ∧
  ((!b95) = false →
  (0 : Int) ≤ 1 ∧ 1 < (2 : Int) ∧
  ∃ b99 : Bool, w114.cell? ⟨k18, 1, none⟩ = some (.bool b99) ∧
  ((!b99) = true →
  R (.bool false) w114) ∧
  ((!b99) = false →
  (0 : Int) ≤ 0 ∧ 0 < (2 : Int) ∧
  ∃ n104_0 : Int, ∃ n104_1 : Int, ∃ n104_2 : Int, ∃ n104_3 : Int, ∃ n104_4 : Int, ∃ n104_5 : Int, ∃ b104_6 : Bool, ∃ n104_7 : Int, ∃ n104_8 : Int, ∃ n104_9 : Int, (w114.cell? ⟨k17, 0, none⟩ = some (.int .u64 n104_0) ∧ w114.cell? ⟨k17, 1, none⟩ = some (.int .u64 n104_1) ∧ w114.cell? ⟨k17, 2, none⟩ = some (.int .i64 n104_2) ∧ w114.cell? ⟨k17, 3, none⟩ = some (.int .i64 n104_3) ∧ w114.cell? ⟨k17, 4, none⟩ = some (.int .i64 n104_4) ∧ w114.cell? ⟨k17, 5, none⟩ = some (.int .i64 n104_5) ∧ w114.cell? ⟨k17, 6, none⟩ = some (.bool b104_6) ∧ w114.cell? ⟨k17, 7, none⟩ = some (.int .i64 n104_7) ∧ w114.cell? ⟨k17, 8, none⟩ = some (.int .i64 n104_8) ∧ w114.cell? ⟨k17, 9, none⟩ = some (.int .i64 n104_9)) ∧
  ∃ n105_0 : Int, ∃ n105_1 : Int, ∃ n105_2 : Int, ∃ n105_3 : Int, ∃ n105_4 : Int, ∃ n105_5 : Int, ∃ b105_6 : Bool, ∃ n105_7 : Int, ∃ n105_8 : Int, ∃ n105_9 : Int, (w114.cell? ⟨k10, 0, none⟩ = some (.int .u64 n105_0) ∧ w114.cell? ⟨k10, 1, none⟩ = some (.int .u64 n105_1) ∧ w114.cell? ⟨k10, 2, none⟩ = some (.int .i64 n105_2) ∧ w114.cell? ⟨k10, 3, none⟩ = some (.int .i64 n105_3) ∧ w114.cell? ⟨k10, 4, none⟩ = some (.int .i64 n105_4) ∧ w114.cell? ⟨k10, 5, none⟩ = some (.int .i64 n105_5) ∧ w114.cell? ⟨k10, 6, none⟩ = some (.bool b105_6) ∧ w114.cell? ⟨k10, 7, none⟩ = some (.int .i64 n105_7) ∧ w114.cell? ⟨k10, 8, none⟩ = some (.int .i64 n105_8) ∧ w114.cell? ⟨k10, 9, none⟩ = some (.int .i64 n105_9)) ∧
  ∃ b106 : Bool, ∃ w115, (do eqGuard .neq 58 (.tmp 104) (.tmp 105) (.agg #[.int .u64 n104_0, .int .u64 n104_1, .int .i64 n104_2, .int .i64 n104_3, .int .i64 n104_4, .int .i64 n104_5, .bool b104_6, .int .i64 n104_7, .int .i64 n104_8, .int .i64 n104_9]) (.agg #[.int .u64 n105_0, .int .u64 n105_1, .int .i64 n105_2, .int .i64 n105_3, .int .i64 n105_4, .int .i64 n105_5, .bool b105_6, .int .i64 n105_7, .int .i64 n105_8, .int .i64 n105_9]); binOp .neq 58 (.agg #[.int .u64 n104_0, .int .u64 n104_1, .int .i64 n104_2, .int .i64 n104_3, .int .i64 n104_4, .int .i64 n104_5, .bool b104_6, .int .i64 n104_7, .int .i64 n104_8, .int .i64 n104_9]) (.agg #[.int .u64 n105_0, .int .u64 n105_1, .int .i64 n105_2, .int .i64 n105_3, .int .i64 n105_4, .int .i64 n105_5, .bool b105_6, .int .i64 n105_7, .int .i64 n105_8, .int .i64 n105_9]) : Sem Value).run Try.prog w114 = .ok (.bool b106) w115 ∧
  (b106 = true →
  (0 : Int) ≤ 1 ∧ 1 < (2 : Int) ∧
  ∃ n109_0 : Int, ∃ n109_1 : Int, ∃ n109_2 : Int, ∃ n109_3 : Int, ∃ n109_4 : Int, ∃ n109_5 : Int, ∃ b109_6 : Bool, ∃ n109_7 : Int, ∃ n109_8 : Int, ∃ n109_9 : Int, (w115.cell? ⟨k17, 10, none⟩ = some (.int .u64 n109_0) ∧ w115.cell? ⟨k17, 11, none⟩ = some (.int .u64 n109_1) ∧ w115.cell? ⟨k17, 12, none⟩ = some (.int .i64 n109_2) ∧ w115.cell? ⟨k17, 13, none⟩ = some (.int .i64 n109_3) ∧ w115.cell? ⟨k17, 14, none⟩ = some (.int .i64 n109_4) ∧ w115.cell? ⟨k17, 15, none⟩ = some (.int .i64 n109_5) ∧ w115.cell? ⟨k17, 16, none⟩ = some (.bool b109_6) ∧ w115.cell? ⟨k17, 17, none⟩ = some (.int .i64 n109_7) ∧ w115.cell? ⟨k17, 18, none⟩ = some (.int .i64 n109_8) ∧ w115.cell? ⟨k17, 19, none⟩ = some (.int .i64 n109_9)) ∧
  ∃ n110_0 : Int, ∃ n110_1 : Int, ∃ n110_2 : Int, ∃ n110_3 : Int, ∃ n110_4 : Int, ∃ n110_5 : Int, ∃ b110_6 : Bool, ∃ n110_7 : Int, ∃ n110_8 : Int, ∃ n110_9 : Int, (w115.cell? ⟨k10, 0, none⟩ = some (.int .u64 n110_0) ∧ w115.cell? ⟨k10, 1, none⟩ = some (.int .u64 n110_1) ∧ w115.cell? ⟨k10, 2, none⟩ = some (.int .i64 n110_2) ∧ w115.cell? ⟨k10, 3, none⟩ = some (.int .i64 n110_3) ∧ w115.cell? ⟨k10, 4, none⟩ = some (.int .i64 n110_4) ∧ w115.cell? ⟨k10, 5, none⟩ = some (.int .i64 n110_5) ∧ w115.cell? ⟨k10, 6, none⟩ = some (.bool b110_6) ∧ w115.cell? ⟨k10, 7, none⟩ = some (.int .i64 n110_7) ∧ w115.cell? ⟨k10, 8, none⟩ = some (.int .i64 n110_8) ∧ w115.cell? ⟨k10, 9, none⟩ = some (.int .i64 n110_9)) ∧
  ∃ b111 : Bool, ∃ w116, (do eqGuard .neq 58 (.tmp 109) (.tmp 110) (.agg #[.int .u64 n109_0, .int .u64 n109_1, .int .i64 n109_2, .int .i64 n109_3, .int .i64 n109_4, .int .i64 n109_5, .bool b109_6, .int .i64 n109_7, .int .i64 n109_8, .int .i64 n109_9]) (.agg #[.int .u64 n110_0, .int .u64 n110_1, .int .i64 n110_2, .int .i64 n110_3, .int .i64 n110_4, .int .i64 n110_5, .bool b110_6, .int .i64 n110_7, .int .i64 n110_8, .int .i64 n110_9]); binOp .neq 58 (.agg #[.int .u64 n109_0, .int .u64 n109_1, .int .i64 n109_2, .int .i64 n109_3, .int .i64 n109_4, .int .i64 n109_5, .bool b109_6, .int .i64 n109_7, .int .i64 n109_8, .int .i64 n109_9]) (.agg #[.int .u64 n110_0, .int .u64 n110_1, .int .i64 n110_2, .int .i64 n110_3, .int .i64 n110_4, .int .i64 n110_5, .bool b110_6, .int .i64 n110_7, .int .i64 n110_8, .int .i64 n110_9]) : Sem Value).run Try.prog w115 = .ok (.bool b111) w116 ∧
  (b111 = true →
  R (.bool false) w116) ∧
  (b111 = false →
  J [] w116)) ∧
  (b106 = false →
  J [] w115)))) ∧
  ((decide (n12 > 0)) = false →
  J [] w114)))))) ∧
  ((decide (n12 < (l2 : Int))) = false →
  R (.bool true) w17)))))
theorem revetmentlaw09_SlotsNext_eq (n0 : Int) (n1 : Int) (p2 : Option Addr) (l2 c2 : Nat) (b3 : Bool) (w : World) (R : Value → World → Prop) : revetmentlaw09_SlotsNext n0 n1 p2 l2 c2 b3 w R = fnP Try.prog Try.f10 (.s .o (.s .o (.s .o (.s .o (.s .o (.s .o (.s (.s .o (.b (.l [(11, .one (.int .u64)), (12, .one (.int .i64))] (.s .o (.s (.b (.s .o (.s .o (.s .o (.s .o (.s .o (.j [] .o .o))))))) .o))))) .o))))))) [.int .u64 n0, .int .u64 n1, .slice p2 l2 c2, .bool b3] w R := by kernel_rfl
theorem revetmentlaw09_SlotsNext_calls {n0 : Int} {n1 : Int} {p2 : Option Addr} {l2 c2 : Nat} {b3 : Bool} {w : World} {R : Value → World → Prop} (h : revetmentlaw09_SlotsNext n0 n1 p2 l2 c2 b3 w R) : Calls Try.prog 10 #[.int .u64 n0, .int .u64 n1, .slice p2 l2 c2, .bool b3] w fun e w1 => ∃ v, e = .returned v ∧ R v w1 := fnP_calls callable Try.func10 (revetmentlaw09_SlotsNext_eq n0 n1 p2 l2 c2 b3 w R ▸ h)

/-- revetment/revetmentlaw09.SlotsActs -/
def revetmentlaw09_SlotsActs (p0 : Option Addr) (l0 c0 : Nat) (w : World) (R : Value → World → Prop) : Prop :=
  ((decide ((l0 : Int) > 100)) = true →
  Calls Try.prog 32 #[] w fun e w1 => ∃ b20 : Bool, e = .returned (.bool b20) ∧
  R (.bool b20) w1) ∧
  ((decide ((l0 : Int) > 100)) = false →
  Calls Try.prog 32 #[] w fun e_1 w2 => ∃ b17 : Bool, e_1 = .returned (.bool b17) ∧
  ((!b17) = true →
  Calls Try.prog 32 #[] w2 fun e_2 w3 => ∃ b20_1 : Bool, e_2 = .returned (.bool b20_1) ∧
  R (.bool b20_1) w3) ∧
  ((!b17) = false →
  Calls Try.prog 13 #[.int .i64 3] w2 fun e_3 w4 => ∃ p21 : Option Addr, e_3 = .returned (.pointer p21) ∧
  Calls Try.prog 25 #[.int .i64 3] w4 fun e_4 w5 => ∃ p22 : Option Addr, e_4 = .returned (.pointer p22) ∧
  ((Option.isNone p21) = true →
  R (.bool false) w5) ∧
  ((Option.isNone p21) = false →
  LoopP (fun I => I [.int .i64 0] w5) fun K vs w6 => ∃ n5 : Int, vs = [.int .i64 n5] ∧
  ((decide (n5 < (l0 : Int))) = true →
  ∃ a33 : Addr, p0 = some a33 ∧ (0 : Int) ≤ n5 ∧ n5 < (l0 : Int) ∧
  ∃ n34_0 : Int, ∃ n34_1 : Int, ∃ n34_2 : Int, ∃ n34_3 : Int, ∃ n34_4 : Int, ∃ n34_5 : Int, ∃ n34_6 : Int, ∃ n34_7 : Int, ∃ b34_8 : Bool, ∃ n34_9 : Int, ∃ n34_10 : Int, ∃ n34_11 : Int, ∃ s34_12 : ByteArray, (w6.cell? (Addr.add a33 (n5.toNat * 13)) = some (.int .i64 n34_0) ∧ w6.cell? (Addr.add (Addr.add a33 (n5.toNat * 13)) 1) = some (.int .i64 n34_1) ∧ w6.cell? (Addr.add (Addr.add a33 (n5.toNat * 13)) 2) = some (.int .u64 n34_2) ∧ w6.cell? (Addr.add (Addr.add a33 (n5.toNat * 13)) 3) = some (.int .u64 n34_3) ∧ w6.cell? (Addr.add (Addr.add a33 (n5.toNat * 13)) 4) = some (.int .i64 n34_4) ∧ w6.cell? (Addr.add (Addr.add a33 (n5.toNat * 13)) 5) = some (.int .i64 n34_5) ∧ w6.cell? (Addr.add (Addr.add a33 (n5.toNat * 13)) 6) = some (.int .i64 n34_6) ∧ w6.cell? (Addr.add (Addr.add a33 (n5.toNat * 13)) 7) = some (.int .i64 n34_7) ∧ w6.cell? (Addr.add (Addr.add a33 (n5.toNat * 13)) 8) = some (.bool b34_8) ∧ w6.cell? (Addr.add (Addr.add a33 (n5.toNat * 13)) 9) = some (.int .i64 n34_9) ∧ w6.cell? (Addr.add (Addr.add a33 (n5.toNat * 13)) 10) = some (.int .i64 n34_10) ∧ w6.cell? (Addr.add (Addr.add a33 (n5.toNat * 13)) 11) = some (.int .i64 n34_11) ∧ w6.cell? (Addr.add (Addr.add a33 (n5.toNat * 13)) 12) = some (.string s34_12)) ∧
  Alloc #[.int .i64 0, .int .i64 0, .int .u64 0, .int .u64 0, .int .i64 0, .int .i64 0, .int .i64 0, .int .i64 0, .bool false, .int .i64 0, .int .i64 0, .int .i64 0, .string (ByteArray.mk #[])] 74 w6 fun k6 w7 =>
  St ⟨k6, 0, none⟩ (.int .i64 n34_0) w7 fun w8 =>
  St ⟨k6, 1, none⟩ (.int .i64 n34_1) w8 fun w9 =>
  St ⟨k6, 2, none⟩ (.int .u64 n34_2) w9 fun w10 =>
  St ⟨k6, 3, none⟩ (.int .u64 n34_3) w10 fun w11 =>
  St ⟨k6, 4, none⟩ (.int .i64 n34_4) w11 fun w12 =>
  St ⟨k6, 5, none⟩ (.int .i64 n34_5) w12 fun w13 =>
  St ⟨k6, 6, none⟩ (.int .i64 n34_6) w13 fun w14 =>
  St ⟨k6, 7, none⟩ (.int .i64 n34_7) w14 fun w15 =>
  St ⟨k6, 8, none⟩ (.bool b34_8) w15 fun w16 =>
  St ⟨k6, 9, none⟩ (.int .i64 n34_9) w16 fun w17 =>
  St ⟨k6, 10, none⟩ (.int .i64 n34_10) w17 fun w18 =>
  St ⟨k6, 11, none⟩ (.int .i64 n34_11) w18 fun w19 =>
  St ⟨k6, 12, none⟩ (.string s34_12) w19 fun w20 =>
  ∃ s36 : ByteArray, w20.cell? ⟨k6, 12, none⟩ = some (.string s36) ∧
  ((decide ((s36.size : Int) > 100)) = true →
  Calls Try.prog 32 #[] w20 fun e_5 w21 => ∃ b39 : Bool, e_5 = .returned (.bool b39) ∧
  R (.bool b39) w21) ∧
  ((decide ((s36.size : Int) > 100)) = false →
  ∃ D : World → Prop, D w20.drew ∧
  ∃ s41 : ByteArray, (∀ w, D w → w.cell? ⟨k6, 12, none⟩ = some (.string s41)) ∧
  Calls Try.prog 23 #[] w20.drew fun e_6 w22 => ∃ s42 : ByteArray, e_6 = .returned (.string s42) ∧
  D w22 ∧
  ((s41.size + s42.size : Nat) : Int) ≤ 9223372036854775807 ∧
  ∃ s44 : ByteArray, (∀ x0, x0 = w22 → (Instr.sliceAt 9 (.string (s41 ++ s42)) none (some (.int .i64 64)) none).run Try.prog x0 = .ok (.string s44) x0) ∧
  Join (fun vs_1 w23 => ∃ b8 : Bool, vs_1 = [.bool b8] ∧
  ((!b8) = true →
  R (.bool false) w23) ∧
  ((!b8) = false →
  Calls Try.prog 43 #[.pointer p21, .pointer p22] w23 fun e_7 w24 => ∃ b132 : Bool, e_7 = .returned (.bool b132) ∧
  ((!b132) = true →
  R (.bool false) w24) ∧
  ((!b132) = false →
  K [.int .i64 (IntKind.i64.wrap (n5 + 1))] w24))) fun J =>
  ∃ n46 : Int, w22.cell? ⟨k6, 0, none⟩ = some (.int .i64 n46) ∧
  ((n46 == 0) = true →
  ∃ D_1 : World → Prop, D_1 w22.drew ∧
  ∃ n51_0 : Int, ∃ n51_1 : Int, ∃ n51_2 : Int, ∃ n51_3 : Int, ∃ n51_4 : Int, ∃ n51_5 : Int, ∃ b51_6 : Bool, ∃ n51_7 : Int, ∃ n51_8 : Int, ∃ n51_9 : Int, (∀ w, D_1 w → w.cell? ⟨k6, 2, none⟩ = some (.int .u64 n51_0) ∧ w.cell? ⟨k6, 3, none⟩ = some (.int .u64 n51_1) ∧ w.cell? ⟨k6, 4, none⟩ = some (.int .i64 n51_2) ∧ w.cell? ⟨k6, 5, none⟩ = some (.int .i64 n51_3) ∧ w.cell? ⟨k6, 6, none⟩ = some (.int .i64 n51_4) ∧ w.cell? ⟨k6, 7, none⟩ = some (.int .i64 n51_5) ∧ w.cell? ⟨k6, 8, none⟩ = some (.bool b51_6) ∧ w.cell? ⟨k6, 9, none⟩ = some (.int .i64 n51_7) ∧ w.cell? ⟨k6, 10, none⟩ = some (.int .i64 n51_8) ∧ w.cell? ⟨k6, 11, none⟩ = some (.int .i64 n51_9)) ∧
  Calls Try.prog 35 #[.pointer p21, .agg #[.int .u64 n51_0, .int .u64 n51_1, .int .i64 n51_2, .int .i64 n51_3, .int .i64 n51_4, .int .i64 n51_5, .bool b51_6, .int .i64 n51_7, .int .i64 n51_8, .int .i64 n51_9]] w22.drew fun e_8 w25 => ∃ n52 : Int, e_8 = .returned (.int .i64 n52) ∧
  D_1 w25 ∧
  ∃ n55_0 : Int, ∃ n55_1 : Int, ∃ n55_2 : Int, ∃ n55_3 : Int, ∃ n55_4 : Int, ∃ n55_5 : Int, ∃ b55_6 : Bool, ∃ n55_7 : Int, ∃ n55_8 : Int, ∃ n55_9 : Int, (∀ w, D_1 w → w.cell? ⟨k6, 2, none⟩ = some (.int .u64 n55_0) ∧ w.cell? ⟨k6, 3, none⟩ = some (.int .u64 n55_1) ∧ w.cell? ⟨k6, 4, none⟩ = some (.int .i64 n55_2) ∧ w.cell? ⟨k6, 5, none⟩ = some (.int .i64 n55_3) ∧ w.cell? ⟨k6, 6, none⟩ = some (.int .i64 n55_4) ∧ w.cell? ⟨k6, 7, none⟩ = some (.int .i64 n55_5) ∧ w.cell? ⟨k6, 8, none⟩ = some (.bool b55_6) ∧ w.cell? ⟨k6, 9, none⟩ = some (.int .i64 n55_7) ∧ w.cell? ⟨k6, 10, none⟩ = some (.int .i64 n55_8) ∧ w.cell? ⟨k6, 11, none⟩ = some (.int .i64 n55_9)) ∧
  Calls Try.prog 39 #[.pointer p22, .agg #[.int .u64 n55_0, .int .u64 n55_1, .int .i64 n55_2, .int .i64 n55_3, .int .i64 n55_4, .int .i64 n55_5, .bool b55_6, .int .i64 n55_7, .int .i64 n55_8, .int .i64 n55_9]] w25 fun e_9 w26 => ∃ n56 : Int, e_9 = .returned (.int .i64 n56) ∧
  D_1 w26 ∧
  J [.bool (n52 == n56)] w26) ∧
  ((n46 == 0) = false →
  ((n46 == 1) = true →
  ∃ n63_0 : Int, ∃ n63_1 : Int, ∃ n63_2 : Int, ∃ n63_3 : Int, ∃ n63_4 : Int, ∃ n63_5 : Int, ∃ b63_6 : Bool, ∃ n63_7 : Int, ∃ n63_8 : Int, ∃ n63_9 : Int, (w22.cell? ⟨k6, 2, none⟩ = some (.int .u64 n63_0) ∧ w22.cell? ⟨k6, 3, none⟩ = some (.int .u64 n63_1) ∧ w22.cell? ⟨k6, 4, none⟩ = some (.int .i64 n63_2) ∧ w22.cell? ⟨k6, 5, none⟩ = some (.int .i64 n63_3) ∧ w22.cell? ⟨k6, 6, none⟩ = some (.int .i64 n63_4) ∧ w22.cell? ⟨k6, 7, none⟩ = some (.int .i64 n63_5) ∧ w22.cell? ⟨k6, 8, none⟩ = some (.bool b63_6) ∧ w22.cell? ⟨k6, 9, none⟩ = some (.int .i64 n63_7) ∧ w22.cell? ⟨k6, 10, none⟩ = some (.int .i64 n63_8) ∧ w22.cell? ⟨k6, 11, none⟩ = some (.int .i64 n63_9)) ∧
  Calls Try.prog 37 #[.pointer p21, .agg #[.int .u64 n63_0, .int .u64 n63_1, .int .i64 n63_2, .int .i64 n63_3, .int .i64 n63_4, .int .i64 n63_5, .bool b63_6, .int .i64 n63_7, .int .i64 n63_8, .int .i64 n63_9]] w22 fun e_10 w27 => ∃ n64_0_0 : Int, ∃ n64_0_1 : Int, ∃ n64_0_2 : Int, ∃ n64_0_3 : Int, ∃ n64_0_4 : Int, ∃ n64_0_5 : Int, ∃ b64_0_6 : Bool, ∃ n64_0_7 : Int, ∃ n64_0_8 : Int, ∃ n64_0_9 : Int, ∃ n64_1 : Int, e_10 = .returned (.tuple #[.agg #[.int .u64 n64_0_0, .int .u64 n64_0_1, .int .i64 n64_0_2, .int .i64 n64_0_3, .int .i64 n64_0_4, .int .i64 n64_0_5, .bool b64_0_6, .int .i64 n64_0_7, .int .i64 n64_0_8, .int .i64 n64_0_9], .int .i64 n64_1]) ∧
  Alloc #[.int .u64 0, .int .u64 0, .int .i64 0, .int .i64 0, .int .i64 0, .int .i64 0, .bool false, .int .i64 0, .int .i64 0, .int .i64 0] 58 w27 fun k9 w28 =>
  St ⟨k9, 0, none⟩ (.int .u64 n64_0_0) w28 fun w29 =>
  St ⟨k9, 1, none⟩ (.int .u64 n64_0_1) w29 fun w30 =>
  St ⟨k9, 2, none⟩ (.int .i64 n64_0_2) w30 fun w31 =>
  St ⟨k9, 3, none⟩ (.int .i64 n64_0_3) w31 fun w32 =>
  St ⟨k9, 4, none⟩ (.int .i64 n64_0_4) w32 fun w33 =>
  St ⟨k9, 5, none⟩ (.int .i64 n64_0_5) w33 fun w34 =>
  St ⟨k9, 6, none⟩ (.bool b64_0_6) w34 fun w35 =>
  St ⟨k9, 7, none⟩ (.int .i64 n64_0_7) w35 fun w36 =>
  St ⟨k9, 8, none⟩ (.int .i64 n64_0_8) w36 fun w37 =>
  St ⟨k9, 9, none⟩ (.int .i64 n64_0_9) w37 fun w38 =>
  ∃ n70_0 : Int, ∃ n70_1 : Int, ∃ n70_2 : Int, ∃ n70_3 : Int, ∃ n70_4 : Int, ∃ n70_5 : Int, ∃ b70_6 : Bool, ∃ n70_7 : Int, ∃ n70_8 : Int, ∃ n70_9 : Int, (w38.cell? ⟨k6, 2, none⟩ = some (.int .u64 n70_0) ∧ w38.cell? ⟨k6, 3, none⟩ = some (.int .u64 n70_1) ∧ w38.cell? ⟨k6, 4, none⟩ = some (.int .i64 n70_2) ∧ w38.cell? ⟨k6, 5, none⟩ = some (.int .i64 n70_3) ∧ w38.cell? ⟨k6, 6, none⟩ = some (.int .i64 n70_4) ∧ w38.cell? ⟨k6, 7, none⟩ = some (.int .i64 n70_5) ∧ w38.cell? ⟨k6, 8, none⟩ = some (.bool b70_6) ∧ w38.cell? ⟨k6, 9, none⟩ = some (.int .i64 n70_7) ∧ w38.cell? ⟨k6, 10, none⟩ = some (.int .i64 n70_8) ∧ w38.cell? ⟨k6, 11, none⟩ = some (.int .i64 n70_9)) ∧
  Calls Try.prog 40 #[.pointer p22, .agg #[.int .u64 n70_0, .int .u64 n70_1, .int .i64 n70_2, .int .i64 n70_3, .int .i64 n70_4, .int .i64 n70_5, .bool b70_6, .int .i64 n70_7, .int .i64 n70_8, .int .i64 n70_9]] w38 fun e_11 w39 => ∃ n71_0_0 : Int, ∃ n71_0_1 : Int, ∃ n71_0_2 : Int, ∃ n71_0_3 : Int, ∃ n71_0_4 : Int, ∃ n71_0_5 : Int, ∃ b71_0_6 : Bool, ∃ n71_0_7 : Int, ∃ n71_0_8 : Int, ∃ n71_0_9 : Int, ∃ n71_1 : Int, e_11 = .returned (.tuple #[.agg #[.int .u64 n71_0_0, .int .u64 n71_0_1, .int .i64 n71_0_2, .int .i64 n71_0_3, .int .i64 n71_0_4, .int .i64 n71_0_5, .bool b71_0_6, .int .i64 n71_0_7, .int .i64 n71_0_8, .int .i64 n71_0_9], .int .i64 n71_1]) ∧
  Alloc #[.int .u64 0, .int .u64 0, .int .i64 0, .int .i64 0, .int .i64 0, .int .i64 0, .bool false, .int .i64 0, .int .i64 0, .int .i64 0] 76 w39 fun k11 w40 =>
  St ⟨k11, 0, none⟩ (.int .u64 n71_0_0) w40 fun w41 =>
  St ⟨k11, 1, none⟩ (.int .u64 n71_0_1) w41 fun w42 =>
  St ⟨k11, 2, none⟩ (.int .i64 n71_0_2) w42 fun w43 =>
  St ⟨k11, 3, none⟩ (.int .i64 n71_0_3) w43 fun w44 =>
  St ⟨k11, 4, none⟩ (.int .i64 n71_0_4) w44 fun w45 =>
  St ⟨k11, 5, none⟩ (.int .i64 n71_0_5) w45 fun w46 =>
  St ⟨k11, 6, none⟩ (.bool b71_0_6) w46 fun w47 =>
  St ⟨k11, 7, none⟩ (.int .i64 n71_0_7) w47 fun w48 =>
  St ⟨k11, 8, none⟩ (.int .i64 n71_0_8) w48 fun w49 =>
  St ⟨k11, 9, none⟩ (.int .i64 n71_0_9) w49 fun w50 =>
  ∃ n74_0 : Int, ∃ n74_1 : Int, ∃ n74_2 : Int, ∃ n74_3 : Int, ∃ n74_4 : Int, ∃ n74_5 : Int, ∃ b74_6 : Bool, ∃ n74_7 : Int, ∃ n74_8 : Int, ∃ n74_9 : Int, (w50.cell? ⟨k9, 0, none⟩ = some (.int .u64 n74_0) ∧ w50.cell? ⟨k9, 1, none⟩ = some (.int .u64 n74_1) ∧ w50.cell? ⟨k9, 2, none⟩ = some (.int .i64 n74_2) ∧ w50.cell? ⟨k9, 3, none⟩ = some (.int .i64 n74_3) ∧ w50.cell? ⟨k9, 4, none⟩ = some (.int .i64 n74_4) ∧ w50.cell? ⟨k9, 5, none⟩ = some (.int .i64 n74_5) ∧ w50.cell? ⟨k9, 6, none⟩ = some (.bool b74_6) ∧ w50.cell? ⟨k9, 7, none⟩ = some (.int .i64 n74_7) ∧ w50.cell? ⟨k9, 8, none⟩ = some (.int .i64 n74_8) ∧ w50.cell? ⟨k9, 9, none⟩ = some (.int .i64 n74_9)) ∧
  ∃ n75_0 : Int, ∃ n75_1 : Int, ∃ n75_2 : Int, ∃ n75_3 : Int, ∃ n75_4 : Int, ∃ n75_5 : Int, ∃ b75_6 : Bool, ∃ n75_7 : Int, ∃ n75_8 : Int, ∃ n75_9 : Int, (w50.cell? ⟨k11, 0, none⟩ = some (.int .u64 n75_0) ∧ w50.cell? ⟨k11, 1, none⟩ = some (.int .u64 n75_1) ∧ w50.cell? ⟨k11, 2, none⟩ = some (.int .i64 n75_2) ∧ w50.cell? ⟨k11, 3, none⟩ = some (.int .i64 n75_3) ∧ w50.cell? ⟨k11, 4, none⟩ = some (.int .i64 n75_4) ∧ w50.cell? ⟨k11, 5, none⟩ = some (.int .i64 n75_5) ∧ w50.cell? ⟨k11, 6, none⟩ = some (.bool b75_6) ∧ w50.cell? ⟨k11, 7, none⟩ = some (.int .i64 n75_7) ∧ w50.cell? ⟨k11, 8, none⟩ = some (.int .i64 n75_8) ∧ w50.cell? ⟨k11, 9, none⟩ = some (.int .i64 n75_9)) ∧
  ∃ b76 : Bool, ∃ w51, (do eqGuard .eql 76 (.tmp 74) (.tmp 75) (.agg #[.int .u64 n74_0, .int .u64 n74_1, .int .i64 n74_2, .int .i64 n74_3, .int .i64 n74_4, .int .i64 n74_5, .bool b74_6, .int .i64 n74_7, .int .i64 n74_8, .int .i64 n74_9]) (.agg #[.int .u64 n75_0, .int .u64 n75_1, .int .i64 n75_2, .int .i64 n75_3, .int .i64 n75_4, .int .i64 n75_5, .bool b75_6, .int .i64 n75_7, .int .i64 n75_8, .int .i64 n75_9]); binOp .eql 76 (.agg #[.int .u64 n74_0, .int .u64 n74_1, .int .i64 n74_2, .int .i64 n74_3, .int .i64 n74_4, .int .i64 n74_5, .bool b74_6, .int .i64 n74_7, .int .i64 n74_8, .int .i64 n74_9]) (.agg #[.int .u64 n75_0, .int .u64 n75_1, .int .i64 n75_2, .int .i64 n75_3, .int .i64 n75_4, .int .i64 n75_5, .bool b75_6, .int .i64 n75_7, .int .i64 n75_8, .int .i64 n75_9]) : Sem Value).run Try.prog w50 = .ok (.bool b76) w51 ∧
  (b76 = true →
  J [.bool (n64_1 == n71_1)] w51) ∧
  (b76 = false →
  J [.bool false] w51)) ∧
  ((n46 == 1) = false →
  ((n46 == 3) = true →
  ∃ D_2 : World → Prop, D_2 w22.drew ∧
  ∃ n86 : Int, (∀ w, D_2 w → w.cell? ⟨k6, 1, none⟩ = some (.int .i64 n86)) ∧
  Calls Try.prog 14 #[.pointer p21, .int .i64 n86, .string s44] w22.drew fun e_12 w52 => ∃ n88 : Int, e_12 = .returned (.int .i64 n88) ∧
  D_2 w52 ∧
  ∃ n91 : Int, (∀ w, D_2 w → w.cell? ⟨k6, 1, none⟩ = some (.int .i64 n91)) ∧
  Calls Try.prog 26 #[.pointer p22, .int .i64 n91, .string s44] w52 fun e_13 w53 => ∃ n93 : Int, e_13 = .returned (.int .i64 n93) ∧
  D_2 w53 ∧
  J [.bool (n88 == n93)] w53) ∧
  ((n46 == 3) = false →
  ((n46 == 4) = true →
  ∃ D_3 : World → Prop, D_3 w22.drew ∧
  ∃ n99 : Int, (∀ w, D_3 w → w.cell? ⟨k6, 1, none⟩ = some (.int .i64 n99)) ∧
  Calls Try.prog 21 #[.pointer p21, .int .i64 n99] w22.drew fun e_14 w54 => ∃ n100 : Int, e_14 = .returned (.int .i64 n100) ∧
  D_3 w54 ∧
  ∃ n103 : Int, (∀ w, D_3 w → w.cell? ⟨k6, 1, none⟩ = some (.int .i64 n103)) ∧
  Calls Try.prog 41 #[.pointer p22, .int .i64 n103] w54 fun e_15 w55 => ∃ n104 : Int, e_15 = .returned (.int .i64 n104) ∧
  D_3 w55 ∧
  J [.bool (n100 == n104)] w55) ∧
  ((n46 == 4) = false →
  ((n46 == 5) = true →
  ∃ n110 : Int, w22.cell? ⟨k6, 1, none⟩ = some (.int .i64 n110) ∧
  Alloc #[.int .u8 (IntKind.u8.wrap n110)] 5 w22 fun k112 w56 =>
  Calls Try.prog 17 #[.pointer p21, .slice (some ⟨k112, 0, none⟩) 1 1] w56 fun e_16 w57 => e_16 = .returned (.tuple #[]) ∧
  ∃ n116 : Int, w57.cell? ⟨k6, 1, none⟩ = some (.int .i64 n116) ∧
  Alloc #[.int .u8 (IntKind.u8.wrap n116)] 5 w57 fun k118 w58 =>
  Calls Try.prog 42 #[.pointer p22, .slice (some ⟨k118, 0, none⟩) 1 1] w58 fun e_17 w59 => e_17 = .returned (.tuple #[]) ∧
  J [.bool true] w59) ∧
  ((n46 == 5) = false →
  ((n46 == 6) = true →
  Calls Try.prog 28 #[.pointer p21] w22 fun e_18 w60 => e_18 = .returned (.tuple #[]) ∧
  ∃ a125 : Addr, p22 = some a125 ∧
  St (a125.add 3) (.bool true) w60 fun w61 =>
  J [.bool true] w61) ∧
  ((n46 == 6) = false →
  J [.bool true] w22)))))))) ∧
  ((decide (n5 < (l0 : Int))) = false →
  Calls Try.prog 43 #[.pointer p21, .pointer p22] w6 fun e_19 w62 => ∃ b137 : Bool, e_19 = .returned (.bool b137) ∧
  R (.bool b137) w62))))
theorem revetmentlaw09_SlotsActs_eq (p0 : Option Addr) (l0 c0 : Nat) (w : World) (R : Value → World → Prop) : revetmentlaw09_SlotsActs p0 l0 c0 w R = fnP Try.prog Try.f11 (.s .o (.s .o (.s .o (.s .o (.s .o (.s (.s .o (.b (.l [(5, .one (.int .i64))] (.s .o (.s (.b (.s .o (.s .o (.s .o (.s .o (.j [(8, .one .bool)] .o .o)))))) .o))))) .o)))))) [.slice p0 l0 c0] w R := by kernel_rfl
theorem revetmentlaw09_SlotsActs_calls {p0 : Option Addr} {l0 c0 : Nat} {w : World} {R : Value → World → Prop} (h : revetmentlaw09_SlotsActs p0 l0 c0 w R) : Calls Try.prog 11 #[.slice p0 l0 c0] w fun e w1 => ∃ v, e = .returned v ∧ R v w1 := fnP_calls callable Try.func11 (revetmentlaw09_SlotsActs_eq p0 l0 c0 w R ▸ h)

/-- revetment/revetmentlaw09.shown -/
def revetmentlaw09_shown (w : World) (R : Value → World → Prop) : Prop :=
  Calls Try.prog 13 #[.int .i64 4] w fun e w1 => ∃ p4 : Option Addr, e = .returned (.pointer p4) ∧
  ((Option.isNone p4) = true →
  R (.bool false) w1) ∧
  ((Option.isNone p4) = false →
  Calls Try.prog 34 #[.int .u64 9, .int .u64 3, .int .u8 1] w1 fun e_1 w2 => ∃ n9_0 : Int, ∃ n9_1 : Int, ∃ n9_2 : Int, ∃ n9_3 : Int, ∃ n9_4 : Int, ∃ n9_5 : Int, ∃ b9_6 : Bool, ∃ n9_7 : Int, ∃ n9_8 : Int, ∃ n9_9 : Int, e_1 = .returned (.agg #[.int .u64 n9_0, .int .u64 n9_1, .int .i64 n9_2, .int .i64 n9_3, .int .i64 n9_4, .int .i64 n9_5, .bool b9_6, .int .i64 n9_7, .int .i64 n9_8, .int .i64 n9_9]) ∧
  Calls Try.prog 35 #[.pointer p4, .agg #[.int .u64 n9_0, .int .u64 n9_1, .int .i64 n9_2, .int .i64 n9_3, .int .i64 n9_4, .int .i64 n9_5, .bool b9_6, .int .i64 n9_7, .int .i64 n9_8, .int .i64 n9_9]] w2 fun e_2 w3 => ∃ n10 : Int, e_2 = .returned (.int .i64 n10) ∧
  ((n10 != 0) = true →
  R (.bool false) w3) ∧
  ((n10 != 0) = false →
  Calls Try.prog 33 #[.pointer p4] w3 fun e_3 w4 => ∃ n15_0_0 : Int, ∃ n15_0_1 : Int, ∃ n15_0_2 : Int, ∃ n15_0_3 : Int, ∃ n15_0_4 : Int, ∃ n15_0_5 : Int, ∃ b15_0_6 : Bool, ∃ n15_0_7 : Int, ∃ n15_0_8 : Int, ∃ n15_0_9 : Int, ∃ n15_1 : Int, e_3 = .returned (.tuple #[.agg #[.int .u64 n15_0_0, .int .u64 n15_0_1, .int .i64 n15_0_2, .int .i64 n15_0_3, .int .i64 n15_0_4, .int .i64 n15_0_5, .bool b15_0_6, .int .i64 n15_0_7, .int .i64 n15_0_8, .int .i64 n15_0_9], .int .i64 n15_1]) ∧
  Alloc #[.int .u64 0, .int .u64 0, .int .i64 0, .int .i64 0, .int .i64 0, .int .i64 0, .bool false, .int .i64 0, .int .i64 0, .int .i64 0] 58 w4 fun k2 w5 =>
  St ⟨k2, 0, none⟩ (.int .u64 n15_0_0) w5 fun w6 =>
  St ⟨k2, 1, none⟩ (.int .u64 n15_0_1) w6 fun w7 =>
  St ⟨k2, 2, none⟩ (.int .i64 n15_0_2) w7 fun w8 =>
  St ⟨k2, 3, none⟩ (.int .i64 n15_0_3) w8 fun w9 =>
  St ⟨k2, 4, none⟩ (.int .i64 n15_0_4) w9 fun w10 =>
  St ⟨k2, 5, none⟩ (.int .i64 n15_0_5) w10 fun w11 =>
  St ⟨k2, 6, none⟩ (.bool b15_0_6) w11 fun w12 =>
  St ⟨k2, 7, none⟩ (.int .i64 n15_0_7) w12 fun w13 =>
  St ⟨k2, 8, none⟩ (.int .i64 n15_0_8) w13 fun w14 =>
  St ⟨k2, 9, none⟩ (.int .i64 n15_0_9) w14 fun w15 =>
  ∃ D : World → Prop, D w15.drew ∧
  ∃ n18_0 : Int, ∃ n18_1 : Int, ∃ n18_2 : Int, ∃ n18_3 : Int, ∃ n18_4 : Int, ∃ n18_5 : Int, ∃ b18_6 : Bool, ∃ n18_7 : Int, ∃ n18_8 : Int, ∃ n18_9 : Int, (∀ w, D w → w.cell? ⟨k2, 0, none⟩ = some (.int .u64 n18_0) ∧ w.cell? ⟨k2, 1, none⟩ = some (.int .u64 n18_1) ∧ w.cell? ⟨k2, 2, none⟩ = some (.int .i64 n18_2) ∧ w.cell? ⟨k2, 3, none⟩ = some (.int .i64 n18_3) ∧ w.cell? ⟨k2, 4, none⟩ = some (.int .i64 n18_4) ∧ w.cell? ⟨k2, 5, none⟩ = some (.int .i64 n18_5) ∧ w.cell? ⟨k2, 6, none⟩ = some (.bool b18_6) ∧ w.cell? ⟨k2, 7, none⟩ = some (.int .i64 n18_7) ∧ w.cell? ⟨k2, 8, none⟩ = some (.int .i64 n18_8) ∧ w.cell? ⟨k2, 9, none⟩ = some (.int .i64 n18_9)) ∧
  Calls Try.prog 34 #[.int .u64 9, .int .u64 3, .int .u8 1] w15.drew fun e_4 w16 => ∃ n19_0 : Int, ∃ n19_1 : Int, ∃ n19_2 : Int, ∃ n19_3 : Int, ∃ n19_4 : Int, ∃ n19_5 : Int, ∃ b19_6 : Bool, ∃ n19_7 : Int, ∃ n19_8 : Int, ∃ n19_9 : Int, e_4 = .returned (.agg #[.int .u64 n19_0, .int .u64 n19_1, .int .i64 n19_2, .int .i64 n19_3, .int .i64 n19_4, .int .i64 n19_5, .bool b19_6, .int .i64 n19_7, .int .i64 n19_8, .int .i64 n19_9]) ∧
  D w16 ∧
  ∃ b20 : Bool, (∀ x0, x0 = w16 → (do eqGuard .eql 58 (.tmp 18) (.tmp 19) (.agg #[.int .u64 n18_0, .int .u64 n18_1, .int .i64 n18_2, .int .i64 n18_3, .int .i64 n18_4, .int .i64 n18_5, .bool b18_6, .int .i64 n18_7, .int .i64 n18_8, .int .i64 n18_9]) (.agg #[.int .u64 n19_0, .int .u64 n19_1, .int .i64 n19_2, .int .i64 n19_3, .int .i64 n19_4, .int .i64 n19_5, .bool b19_6, .int .i64 n19_7, .int .i64 n19_8, .int .i64 n19_9]); binOp .eql 58 (.agg #[.int .u64 n18_0, .int .u64 n18_1, .int .i64 n18_2, .int .i64 n18_3, .int .i64 n18_4, .int .i64 n18_5, .bool b18_6, .int .i64 n18_7, .int .i64 n18_8, .int .i64 n18_9]) (.agg #[.int .u64 n19_0, .int .u64 n19_1, .int .i64 n19_2, .int .i64 n19_3, .int .i64 n19_4, .int .i64 n19_5, .bool b19_6, .int .i64 n19_7, .int .i64 n19_8, .int .i64 n19_9]) : Sem Value).run Try.prog x0 = .ok (.bool b20) x0) ∧
  (b20 = true →
  R (.bool (n15_1 == 0)) w16) ∧
  (b20 = false →
  R (.bool false) w16)))
theorem revetmentlaw09_shown_eq (w : World) (R : Value → World → Prop) : revetmentlaw09_shown w R = fnP Try.prog Try.f32 .o [] w R := by kernel_rfl
theorem revetmentlaw09_shown_calls {w : World} {R : Value → World → Prop} (h : revetmentlaw09_shown w R) : Calls Try.prog 32 #[] w fun e w1 => ∃ v, e = .returned v ∧ R v w1 := fnP_calls callable Try.func32 (revetmentlaw09_shown_eq w R ▸ h)

/-- revetment/slots.Load -/
def slots_Load (p0 : Option Addr) (w : World) (R : Value → World → Prop) : Prop :=
  Alloc #[.int .u64 0, .int .u64 0, .int .i64 0, .int .i64 0, .int .i64 0, .int .i64 0, .bool false, .int .i64 0, .int .i64 0, .int .i64 0] 58 w fun k2 w1 =>
  Calls Try.prog 31 #[.pointer p0] w1 fun e w2 => ∃ b8 : Bool, e = .returned (.bool b8) ∧
  (b8 = true →
  St ⟨k2, 0, none⟩ (.int .u64 0) w2 fun w3 =>
  St ⟨k2, 1, none⟩ (.int .u64 0) w3 fun w4 =>
  St ⟨k2, 2, none⟩ (.int .i64 0) w4 fun w5 =>
  St ⟨k2, 3, none⟩ (.int .i64 0) w5 fun w6 =>
  St ⟨k2, 4, none⟩ (.int .i64 0) w6 fun w7 =>
  St ⟨k2, 5, none⟩ (.int .i64 0) w7 fun w8 =>
  St ⟨k2, 6, none⟩ (.bool false) w8 fun w9 =>
  St ⟨k2, 7, none⟩ (.int .i64 0) w9 fun w10 =>
  St ⟨k2, 8, none⟩ (.int .i64 0) w10 fun w11 =>
  St ⟨k2, 9, none⟩ (.int .i64 0) w11 fun w12 =>
  ∃ nr2_0 : Int, ∃ nr2_1 : Int, ∃ nr2_2 : Int, ∃ nr2_3 : Int, ∃ nr2_4 : Int, ∃ nr2_5 : Int, ∃ br2_6 : Bool, ∃ nr2_7 : Int, ∃ nr2_8 : Int, ∃ nr2_9 : Int, (w12.cell? ⟨k2, 0, none⟩ = some (.int .u64 nr2_0) ∧ w12.cell? ⟨k2, 1, none⟩ = some (.int .u64 nr2_1) ∧ w12.cell? ⟨k2, 2, none⟩ = some (.int .i64 nr2_2) ∧ w12.cell? ⟨k2, 3, none⟩ = some (.int .i64 nr2_3) ∧ w12.cell? ⟨k2, 4, none⟩ = some (.int .i64 nr2_4) ∧ w12.cell? ⟨k2, 5, none⟩ = some (.int .i64 nr2_5) ∧ w12.cell? ⟨k2, 6, none⟩ = some (.bool br2_6) ∧ w12.cell? ⟨k2, 7, none⟩ = some (.int .i64 nr2_7) ∧ w12.cell? ⟨k2, 8, none⟩ = some (.int .i64 nr2_8) ∧ w12.cell? ⟨k2, 9, none⟩ = some (.int .i64 nr2_9)) ∧
  R (.tuple #[.agg #[.int .u64 nr2_0, .int .u64 nr2_1, .int .i64 nr2_2, .int .i64 nr2_3, .int .i64 nr2_4, .int .i64 nr2_5, .bool br2_6, .int .i64 nr2_7, .int .i64 nr2_8, .int .i64 nr2_9], .int .i64 40]) w12) ∧
  (b8 = false →
  Calls Try.prog 38 #[.pointer p0] w2 fun e_1 w13 => ∃ n12_0_0 : Int, ∃ n12_0_1 : Int, ∃ n12_0_2 : Int, ∃ n12_0_3 : Int, ∃ n12_0_4 : Int, ∃ n12_0_5 : Int, ∃ b12_0_6 : Bool, ∃ n12_0_7 : Int, ∃ n12_0_8 : Int, ∃ n12_0_9 : Int, ∃ n12_0_10 : Int, ∃ n12_0_11 : Int, ∃ n12_0_12 : Int, ∃ n12_0_13 : Int, ∃ n12_0_14 : Int, ∃ n12_0_15 : Int, ∃ b12_0_16 : Bool, ∃ n12_0_17 : Int, ∃ n12_0_18 : Int, ∃ n12_0_19 : Int, ∃ b12_1_0 : Bool, ∃ b12_1_1 : Bool, e_1 = .returned (.tuple #[.agg #[.int .u64 n12_0_0, .int .u64 n12_0_1, .int .i64 n12_0_2, .int .i64 n12_0_3, .int .i64 n12_0_4, .int .i64 n12_0_5, .bool b12_0_6, .int .i64 n12_0_7, .int .i64 n12_0_8, .int .i64 n12_0_9, .int .u64 n12_0_10, .int .u64 n12_0_11, .int .i64 n12_0_12, .int .i64 n12_0_13, .int .i64 n12_0_14, .int .i64 n12_0_15, .bool b12_0_16, .int .i64 n12_0_17, .int .i64 n12_0_18, .int .i64 n12_0_19], .agg #[.bool b12_1_0, .bool b12_1_1]]) ∧
  Alloc #[.int .u64 0, .int .u64 0, .int .i64 0, .int .i64 0, .int .i64 0, .int .i64 0, .bool false, .int .i64 0, .int .i64 0, .int .i64 0, .int .u64 0, .int .u64 0, .int .i64 0, .int .i64 0, .int .i64 0, .int .i64 0, .bool false, .int .i64 0, .int .i64 0, .int .i64 0] 67 w13 fun k4 w14 =>
  Alloc #[.bool false, .bool false] 68 w14 fun k5 w15 =>
  St ⟨k4, 0, none⟩ (.int .u64 n12_0_0) w15 fun w16 =>
  St ⟨k4, 1, none⟩ (.int .u64 n12_0_1) w16 fun w17 =>
  St ⟨k4, 2, none⟩ (.int .i64 n12_0_2) w17 fun w18 =>
  St ⟨k4, 3, none⟩ (.int .i64 n12_0_3) w18 fun w19 =>
  St ⟨k4, 4, none⟩ (.int .i64 n12_0_4) w19 fun w20 =>
  St ⟨k4, 5, none⟩ (.int .i64 n12_0_5) w20 fun w21 =>
  St ⟨k4, 6, none⟩ (.bool b12_0_6) w21 fun w22 =>
  St ⟨k4, 7, none⟩ (.int .i64 n12_0_7) w22 fun w23 =>
  St ⟨k4, 8, none⟩ (.int .i64 n12_0_8) w23 fun w24 =>
  St ⟨k4, 9, none⟩ (.int .i64 n12_0_9) w24 fun w25 =>
  St ⟨k4, 10, none⟩ (.int .u64 n12_0_10) w25 fun w26 =>
  St ⟨k4, 11, none⟩ (.int .u64 n12_0_11) w26 fun w27 =>
  St ⟨k4, 12, none⟩ (.int .i64 n12_0_12) w27 fun w28 =>
  St ⟨k4, 13, none⟩ (.int .i64 n12_0_13) w28 fun w29 =>
  St ⟨k4, 14, none⟩ (.int .i64 n12_0_14) w29 fun w30 =>
  St ⟨k4, 15, none⟩ (.int .i64 n12_0_15) w30 fun w31 =>
  St ⟨k4, 16, none⟩ (.bool b12_0_16) w31 fun w32 =>
  St ⟨k4, 17, none⟩ (.int .i64 n12_0_17) w32 fun w33 =>
  St ⟨k4, 18, none⟩ (.int .i64 n12_0_18) w33 fun w34 =>
  St ⟨k4, 19, none⟩ (.int .i64 n12_0_19) w34 fun w35 =>
  St ⟨k5, 0, none⟩ (.bool b12_1_0) w35 fun w36 =>
  St ⟨k5, 1, none⟩ (.bool b12_1_1) w36 fun w37 =>
  Calls Try.prog 60 #[.pointer (some ⟨k5, 0, none⟩), .pointer (some ⟨k4, 0, none⟩)] w37 fun e_2 w38 => ∃ b18 : Bool, e_2 = .returned (.bool b18) ∧
  (b18 = true →
  (0 : Int) ≤ 1 ∧ 1 < (2 : Int) ∧
  ∃ n20_0 : Int, ∃ n20_1 : Int, ∃ n20_2 : Int, ∃ n20_3 : Int, ∃ n20_4 : Int, ∃ n20_5 : Int, ∃ b20_6 : Bool, ∃ n20_7 : Int, ∃ n20_8 : Int, ∃ n20_9 : Int, (w38.cell? ⟨k4, 10, none⟩ = some (.int .u64 n20_0) ∧ w38.cell? ⟨k4, 11, none⟩ = some (.int .u64 n20_1) ∧ w38.cell? ⟨k4, 12, none⟩ = some (.int .i64 n20_2) ∧ w38.cell? ⟨k4, 13, none⟩ = some (.int .i64 n20_3) ∧ w38.cell? ⟨k4, 14, none⟩ = some (.int .i64 n20_4) ∧ w38.cell? ⟨k4, 15, none⟩ = some (.int .i64 n20_5) ∧ w38.cell? ⟨k4, 16, none⟩ = some (.bool b20_6) ∧ w38.cell? ⟨k4, 17, none⟩ = some (.int .i64 n20_7) ∧ w38.cell? ⟨k4, 18, none⟩ = some (.int .i64 n20_8) ∧ w38.cell? ⟨k4, 19, none⟩ = some (.int .i64 n20_9)) ∧
  St ⟨k2, 0, none⟩ (.int .u64 n20_0) w38 fun w39 =>
  St ⟨k2, 1, none⟩ (.int .u64 n20_1) w39 fun w40 =>
  St ⟨k2, 2, none⟩ (.int .i64 n20_2) w40 fun w41 =>
  St ⟨k2, 3, none⟩ (.int .i64 n20_3) w41 fun w42 =>
  St ⟨k2, 4, none⟩ (.int .i64 n20_4) w42 fun w43 =>
  St ⟨k2, 5, none⟩ (.int .i64 n20_5) w43 fun w44 =>
  St ⟨k2, 6, none⟩ (.bool b20_6) w44 fun w45 =>
  St ⟨k2, 7, none⟩ (.int .i64 n20_7) w45 fun w46 =>
  St ⟨k2, 8, none⟩ (.int .i64 n20_8) w46 fun w47 =>
  St ⟨k2, 9, none⟩ (.int .i64 n20_9) w47 fun w48 =>
  ∃ nr2_0_1 : Int, ∃ nr2_1_1 : Int, ∃ nr2_2_1 : Int, ∃ nr2_3_1 : Int, ∃ nr2_4_1 : Int, ∃ nr2_5_1 : Int, ∃ br2_6_1 : Bool, ∃ nr2_7_1 : Int, ∃ nr2_8_1 : Int, ∃ nr2_9_1 : Int, (w48.cell? ⟨k2, 0, none⟩ = some (.int .u64 nr2_0_1) ∧ w48.cell? ⟨k2, 1, none⟩ = some (.int .u64 nr2_1_1) ∧ w48.cell? ⟨k2, 2, none⟩ = some (.int .i64 nr2_2_1) ∧ w48.cell? ⟨k2, 3, none⟩ = some (.int .i64 nr2_3_1) ∧ w48.cell? ⟨k2, 4, none⟩ = some (.int .i64 nr2_4_1) ∧ w48.cell? ⟨k2, 5, none⟩ = some (.int .i64 nr2_5_1) ∧ w48.cell? ⟨k2, 6, none⟩ = some (.bool br2_6_1) ∧ w48.cell? ⟨k2, 7, none⟩ = some (.int .i64 nr2_7_1) ∧ w48.cell? ⟨k2, 8, none⟩ = some (.int .i64 nr2_8_1) ∧ w48.cell? ⟨k2, 9, none⟩ = some (.int .i64 nr2_9_1)) ∧
  R (.tuple #[.agg #[.int .u64 nr2_0_1, .int .u64 nr2_1_1, .int .i64 nr2_2_1, .int .i64 nr2_3_1, .int .i64 nr2_4_1, .int .i64 nr2_5_1, .bool br2_6_1, .int .i64 nr2_7_1, .int .i64 nr2_8_1, .int .i64 nr2_9_1], .int .i64 0]) w48) ∧
  (b18 = false →
  (0 : Int) ≤ 0 ∧ 0 < (2 : Int) ∧
  ∃ b23 : Bool, w38.cell? ⟨k5, 0, none⟩ = some (.bool b23) ∧
  (b23 = true →
  (0 : Int) ≤ 0 ∧ 0 < (2 : Int) ∧
  ∃ n25_0 : Int, ∃ n25_1 : Int, ∃ n25_2 : Int, ∃ n25_3 : Int, ∃ n25_4 : Int, ∃ n25_5 : Int, ∃ b25_6 : Bool, ∃ n25_7 : Int, ∃ n25_8 : Int, ∃ n25_9 : Int, (w38.cell? ⟨k4, 0, none⟩ = some (.int .u64 n25_0) ∧ w38.cell? ⟨k4, 1, none⟩ = some (.int .u64 n25_1) ∧ w38.cell? ⟨k4, 2, none⟩ = some (.int .i64 n25_2) ∧ w38.cell? ⟨k4, 3, none⟩ = some (.int .i64 n25_3) ∧ w38.cell? ⟨k4, 4, none⟩ = some (.int .i64 n25_4) ∧ w38.cell? ⟨k4, 5, none⟩ = some (.int .i64 n25_5) ∧ w38.cell? ⟨k4, 6, none⟩ = some (.bool b25_6) ∧ w38.cell? ⟨k4, 7, none⟩ = some (.int .i64 n25_7) ∧ w38.cell? ⟨k4, 8, none⟩ = some (.int .i64 n25_8) ∧ w38.cell? ⟨k4, 9, none⟩ = some (.int .i64 n25_9)) ∧
  St ⟨k2, 0, none⟩ (.int .u64 n25_0) w38 fun w49 =>
  St ⟨k2, 1, none⟩ (.int .u64 n25_1) w49 fun w50 =>
  St ⟨k2, 2, none⟩ (.int .i64 n25_2) w50 fun w51 =>
  St ⟨k2, 3, none⟩ (.int .i64 n25_3) w51 fun w52 =>
  St ⟨k2, 4, none⟩ (.int .i64 n25_4) w52 fun w53 =>
  St ⟨k2, 5, none⟩ (.int .i64 n25_5) w53 fun w54 =>
  St ⟨k2, 6, none⟩ (.bool b25_6) w54 fun w55 =>
  St ⟨k2, 7, none⟩ (.int .i64 n25_7) w55 fun w56 =>
  St ⟨k2, 8, none⟩ (.int .i64 n25_8) w56 fun w57 =>
  St ⟨k2, 9, none⟩ (.int .i64 n25_9) w57 fun w58 =>
  ∃ nr2_0_2 : Int, ∃ nr2_1_2 : Int, ∃ nr2_2_2 : Int, ∃ nr2_3_2 : Int, ∃ nr2_4_2 : Int, ∃ nr2_5_2 : Int, ∃ br2_6_2 : Bool, ∃ nr2_7_2 : Int, ∃ nr2_8_2 : Int, ∃ nr2_9_2 : Int, (w58.cell? ⟨k2, 0, none⟩ = some (.int .u64 nr2_0_2) ∧ w58.cell? ⟨k2, 1, none⟩ = some (.int .u64 nr2_1_2) ∧ w58.cell? ⟨k2, 2, none⟩ = some (.int .i64 nr2_2_2) ∧ w58.cell? ⟨k2, 3, none⟩ = some (.int .i64 nr2_3_2) ∧ w58.cell? ⟨k2, 4, none⟩ = some (.int .i64 nr2_4_2) ∧ w58.cell? ⟨k2, 5, none⟩ = some (.int .i64 nr2_5_2) ∧ w58.cell? ⟨k2, 6, none⟩ = some (.bool br2_6_2) ∧ w58.cell? ⟨k2, 7, none⟩ = some (.int .i64 nr2_7_2) ∧ w58.cell? ⟨k2, 8, none⟩ = some (.int .i64 nr2_8_2) ∧ w58.cell? ⟨k2, 9, none⟩ = some (.int .i64 nr2_9_2)) ∧
  R (.tuple #[.agg #[.int .u64 nr2_0_2, .int .u64 nr2_1_2, .int .i64 nr2_2_2, .int .i64 nr2_3_2, .int .i64 nr2_4_2, .int .i64 nr2_5_2, .bool br2_6_2, .int .i64 nr2_7_2, .int .i64 nr2_8_2, .int .i64 nr2_9_2], .int .i64 0]) w58) ∧
  (b23 = false →
  St ⟨k2, 0, none⟩ (.int .u64 0) w38 fun w59 =>
  St ⟨k2, 1, none⟩ (.int .u64 0) w59 fun w60 =>
  St ⟨k2, 2, none⟩ (.int .i64 0) w60 fun w61 =>
  St ⟨k2, 3, none⟩ (.int .i64 0) w61 fun w62 =>
  St ⟨k2, 4, none⟩ (.int .i64 0) w62 fun w63 =>
  St ⟨k2, 5, none⟩ (.int .i64 0) w63 fun w64 =>
  St ⟨k2, 6, none⟩ (.bool false) w64 fun w65 =>
  St ⟨k2, 7, none⟩ (.int .i64 0) w65 fun w66 =>
  St ⟨k2, 8, none⟩ (.int .i64 0) w66 fun w67 =>
  St ⟨k2, 9, none⟩ (.int .i64 0) w67 fun w68 =>
  ∃ nr2_0_3 : Int, ∃ nr2_1_3 : Int, ∃ nr2_2_3 : Int, ∃ nr2_3_3 : Int, ∃ nr2_4_3 : Int, ∃ nr2_5_3 : Int, ∃ br2_6_3 : Bool, ∃ nr2_7_3 : Int, ∃ nr2_8_3 : Int, ∃ nr2_9_3 : Int, (w68.cell? ⟨k2, 0, none⟩ = some (.int .u64 nr2_0_3) ∧ w68.cell? ⟨k2, 1, none⟩ = some (.int .u64 nr2_1_3) ∧ w68.cell? ⟨k2, 2, none⟩ = some (.int .i64 nr2_2_3) ∧ w68.cell? ⟨k2, 3, none⟩ = some (.int .i64 nr2_3_3) ∧ w68.cell? ⟨k2, 4, none⟩ = some (.int .i64 nr2_4_3) ∧ w68.cell? ⟨k2, 5, none⟩ = some (.int .i64 nr2_5_3) ∧ w68.cell? ⟨k2, 6, none⟩ = some (.bool br2_6_3) ∧ w68.cell? ⟨k2, 7, none⟩ = some (.int .i64 nr2_7_3) ∧ w68.cell? ⟨k2, 8, none⟩ = some (.int .i64 nr2_8_3) ∧ w68.cell? ⟨k2, 9, none⟩ = some (.int .i64 nr2_9_3)) ∧
  R (.tuple #[.agg #[.int .u64 nr2_0_3, .int .u64 nr2_1_3, .int .i64 nr2_2_3, .int .i64 nr2_3_3, .int .i64 nr2_4_3, .int .i64 nr2_5_3, .bool br2_6_3, .int .i64 nr2_7_3, .int .i64 nr2_8_3, .int .i64 nr2_9_3], .int .i64 90]) w68)))
theorem slots_Load_eq (p0 : Option Addr) (w : World) (R : Value → World → Prop) : slots_Load p0 w R = fnP Try.prog Try.f33 .o [.pointer p0] w R := by kernel_rfl
theorem slots_Load_calls {p0 : Option Addr} {w : World} {R : Value → World → Prop} (h : slots_Load p0 w R) : Calls Try.prog 33 #[.pointer p0] w fun e w1 => ∃ v, e = .returned v ∧ R v w1 := fnP_calls callable Try.func33 (slots_Load_eq p0 w R ▸ h)

/-- revetment/revetmentlaw09.some -/
def revetmentlaw09_some (n0 : Int) (n1 : Int) (n2 : Int) (w : World) (R : Value → World → Prop) : Prop :=
  Alloc #[.int .u64 0, .int .u64 0, .int .i64 0, .int .i64 0, .int .i64 0, .int .i64 0, .bool false, .int .i64 0, .int .i64 0, .int .i64 0] 58 w fun k6 w1 =>
  ∃ n8 : Int, ∃ w2, (builtin .max #[53, 53] 53 #[false, true] #[.int .u64 n0, .int .u64 1]).run Try.prog w1 = .ok (.value (.int .u64 n8)) w2 ∧
  St ⟨k6, 0, none⟩ (.int .u64 n8) w2 fun w3 =>
  St ⟨k6, 1, none⟩ (.int .u64 n1) w3 fun w4 =>
  St ⟨k6, 2, none⟩ (.int .i64 (Int.tmod (IntKind.i64.wrap n2) 4)) w4 fun w5 =>
  St ⟨k6, 3, none⟩ (.int .i64 4) w5 fun w6 =>
  St ⟨k6, 4, none⟩ (.int .i64 1) w6 fun w7 =>
  St ⟨k6, 5, none⟩ (.int .i64 5) w7 fun w8 =>
  St ⟨k6, 6, none⟩ (.bool false) w8 fun w9 =>
  St ⟨k6, 7, none⟩ (.int .i64 5) w9 fun w10 =>
  St ⟨k6, 8, none⟩ (.int .i64 0) w10 fun w11 =>
  St ⟨k6, 9, none⟩ (.int .i64 0) w11 fun w12 =>
  ∃ nr6_0 : Int, ∃ nr6_1 : Int, ∃ nr6_2 : Int, ∃ nr6_3 : Int, ∃ nr6_4 : Int, ∃ nr6_5 : Int, ∃ br6_6 : Bool, ∃ nr6_7 : Int, ∃ nr6_8 : Int, ∃ nr6_9 : Int, (w12.cell? ⟨k6, 0, none⟩ = some (.int .u64 nr6_0) ∧ w12.cell? ⟨k6, 1, none⟩ = some (.int .u64 nr6_1) ∧ w12.cell? ⟨k6, 2, none⟩ = some (.int .i64 nr6_2) ∧ w12.cell? ⟨k6, 3, none⟩ = some (.int .i64 nr6_3) ∧ w12.cell? ⟨k6, 4, none⟩ = some (.int .i64 nr6_4) ∧ w12.cell? ⟨k6, 5, none⟩ = some (.int .i64 nr6_5) ∧ w12.cell? ⟨k6, 6, none⟩ = some (.bool br6_6) ∧ w12.cell? ⟨k6, 7, none⟩ = some (.int .i64 nr6_7) ∧ w12.cell? ⟨k6, 8, none⟩ = some (.int .i64 nr6_8) ∧ w12.cell? ⟨k6, 9, none⟩ = some (.int .i64 nr6_9)) ∧
  R (.agg #[.int .u64 nr6_0, .int .u64 nr6_1, .int .i64 nr6_2, .int .i64 nr6_3, .int .i64 nr6_4, .int .i64 nr6_5, .bool br6_6, .int .i64 nr6_7, .int .i64 nr6_8, .int .i64 nr6_9]) w12
theorem revetmentlaw09_some_eq (n0 : Int) (n1 : Int) (n2 : Int) (w : World) (R : Value → World → Prop) : revetmentlaw09_some n0 n1 n2 w R = fnP Try.prog Try.f34 .o [.int .u64 n0, .int .u64 n1, .int .u8 n2] w R := by kernel_rfl
theorem revetmentlaw09_some_calls {n0 : Int} {n1 : Int} {n2 : Int} {w : World} {R : Value → World → Prop} (h : revetmentlaw09_some n0 n1 n2 w R) : Calls Try.prog 34 #[.int .u64 n0, .int .u64 n1, .int .u8 n2] w fun e w1 => ∃ v, e = .returned v ∧ R v w1 := fnP_calls callable Try.func34 (revetmentlaw09_some_eq n0 n1 n2 w R ▸ h)

/-- revetment/slots.Save -/
def slots_Save (p0 : Option Addr) (n1_0 : Int) (n1_1 : Int) (n1_2 : Int) (n1_3 : Int) (n1_4 : Int) (n1_5 : Int) (b1_6 : Bool) (n1_7 : Int) (n1_8 : Int) (n1_9 : Int) (w : World) (R : Value → World → Prop) : Prop :=
  Alloc #[.int .u64 n1_0, .int .u64 n1_1, .int .i64 n1_2, .int .i64 n1_3, .int .i64 n1_4, .int .i64 n1_5, .bool b1_6, .int .i64 n1_7, .int .i64 n1_8, .int .i64 n1_9] 58 w fun k3 w1 =>
  ∃ n8_0 : Int, ∃ n8_1 : Int, ∃ n8_2 : Int, ∃ n8_3 : Int, ∃ n8_4 : Int, ∃ n8_5 : Int, ∃ b8_6 : Bool, ∃ n8_7 : Int, ∃ n8_8 : Int, ∃ n8_9 : Int, (w1.cell? ⟨k3, 0, none⟩ = some (.int .u64 n8_0) ∧ w1.cell? ⟨k3, 1, none⟩ = some (.int .u64 n8_1) ∧ w1.cell? ⟨k3, 2, none⟩ = some (.int .i64 n8_2) ∧ w1.cell? ⟨k3, 3, none⟩ = some (.int .i64 n8_3) ∧ w1.cell? ⟨k3, 4, none⟩ = some (.int .i64 n8_4) ∧ w1.cell? ⟨k3, 5, none⟩ = some (.int .i64 n8_5) ∧ w1.cell? ⟨k3, 6, none⟩ = some (.bool b8_6) ∧ w1.cell? ⟨k3, 7, none⟩ = some (.int .i64 n8_7) ∧ w1.cell? ⟨k3, 8, none⟩ = some (.int .i64 n8_8) ∧ w1.cell? ⟨k3, 9, none⟩ = some (.int .i64 n8_9)) ∧
  Calls Try.prog 36 #[.agg #[.int .u64 n8_0, .int .u64 n8_1, .int .i64 n8_2, .int .i64 n8_3, .int .i64 n8_4, .int .i64 n8_5, .bool b8_6, .int .i64 n8_7, .int .i64 n8_8, .int .i64 n8_9]] w1 fun e w2 => ∃ s9_0 : ByteArray, ∃ n9_1 : Int, e = .returned (.tuple #[.string s9_0, .int .i64 n9_1]) ∧
  ((n9_1 != 0) = true →
  R (.int .i64 1) w2) ∧
  ((n9_1 != 0) = false →
  ∃ n16 : Int, w2.cell? ⟨k3, 1, none⟩ = some (.int .u64 n16) ∧
  Calls Try.prog 14 #[.pointer p0, .int .i64 (IntKind.i64.wrap (bits2 .and .u64 n16 1)), .string s9_0] w2 fun e_1 w3 => ∃ n20 : Int, e_1 = .returned (.int .i64 n20) ∧
  ((n20 != 0) = true →
  R (.int .i64 n20) w3) ∧
  ((n20 != 0) = false →
  Calls Try.prog 16 #[.pointer p0] w3 fun e_2 w4 => ∃ n25 : Int, e_2 = .returned (.int .i64 n25) ∧
  R (.int .i64 n25) w4))
theorem slots_Save_eq (p0 : Option Addr) (n1_0 : Int) (n1_1 : Int) (n1_2 : Int) (n1_3 : Int) (n1_4 : Int) (n1_5 : Int) (b1_6 : Bool) (n1_7 : Int) (n1_8 : Int) (n1_9 : Int) (w : World) (R : Value → World → Prop) : slots_Save p0 n1_0 n1_1 n1_2 n1_3 n1_4 n1_5 b1_6 n1_7 n1_8 n1_9 w R = fnP Try.prog Try.f35 .o [.pointer p0, .agg #[.int .u64 n1_0, .int .u64 n1_1, .int .i64 n1_2, .int .i64 n1_3, .int .i64 n1_4, .int .i64 n1_5, .bool b1_6, .int .i64 n1_7, .int .i64 n1_8, .int .i64 n1_9]] w R := by kernel_rfl
theorem slots_Save_calls {p0 : Option Addr} {n1_0 : Int} {n1_1 : Int} {n1_2 : Int} {n1_3 : Int} {n1_4 : Int} {n1_5 : Int} {b1_6 : Bool} {n1_7 : Int} {n1_8 : Int} {n1_9 : Int} {w : World} {R : Value → World → Prop} (h : slots_Save p0 n1_0 n1_1 n1_2 n1_3 n1_4 n1_5 b1_6 n1_7 n1_8 n1_9 w R) : Calls Try.prog 35 #[.pointer p0, .agg #[.int .u64 n1_0, .int .u64 n1_1, .int .i64 n1_2, .int .i64 n1_3, .int .i64 n1_4, .int .i64 n1_5, .bool b1_6, .int .i64 n1_7, .int .i64 n1_8, .int .i64 n1_9]] w fun e w1 => ∃ v, e = .returned v ∧ R v w1 := fnP_calls callable Try.func35 (slots_Save_eq p0 n1_0 n1_1 n1_2 n1_3 n1_4 n1_5 b1_6 n1_7 n1_8 n1_9 w R ▸ h)

/-- revetment/super.Encode -/
def super_Encode (n0_0 : Int) (n0_1 : Int) (n0_2 : Int) (n0_3 : Int) (n0_4 : Int) (n0_5 : Int) (b0_6 : Bool) (n0_7 : Int) (n0_8 : Int) (n0_9 : Int) (w : World) (R : Value → World → Prop) : Prop :=
  Alloc #[.int .u64 n0_0, .int .u64 n0_1, .int .i64 n0_2, .int .i64 n0_3, .int .i64 n0_4, .int .i64 n0_5, .bool b0_6, .int .i64 n0_7, .int .i64 n0_8, .int .i64 n0_9] 58 w fun k1 w1 =>
  ∃ n12_0 : Int, ∃ n12_1 : Int, ∃ n12_2 : Int, ∃ n12_3 : Int, ∃ n12_4 : Int, ∃ n12_5 : Int, ∃ b12_6 : Bool, ∃ n12_7 : Int, ∃ n12_8 : Int, ∃ n12_9 : Int, (w1.cell? ⟨k1, 0, none⟩ = some (.int .u64 n12_0) ∧ w1.cell? ⟨k1, 1, none⟩ = some (.int .u64 n12_1) ∧ w1.cell? ⟨k1, 2, none⟩ = some (.int .i64 n12_2) ∧ w1.cell? ⟨k1, 3, none⟩ = some (.int .i64 n12_3) ∧ w1.cell? ⟨k1, 4, none⟩ = some (.int .i64 n12_4) ∧ w1.cell? ⟨k1, 5, none⟩ = some (.int .i64 n12_5) ∧ w1.cell? ⟨k1, 6, none⟩ = some (.bool b12_6) ∧ w1.cell? ⟨k1, 7, none⟩ = some (.int .i64 n12_7) ∧ w1.cell? ⟨k1, 8, none⟩ = some (.int .i64 n12_8) ∧ w1.cell? ⟨k1, 9, none⟩ = some (.int .i64 n12_9)) ∧
  Calls Try.prog 61 #[.agg #[.int .u64 n12_0, .int .u64 n12_1, .int .i64 n12_2, .int .i64 n12_3, .int .i64 n12_4, .int .i64 n12_5, .bool b12_6, .int .i64 n12_7, .int .i64 n12_8, .int .i64 n12_9]] w1 fun e w2 => ∃ b13 : Bool, e = .returned (.bool b13) ∧
  ((!b13) = true →
  R (.tuple #[.string (ByteArray.mk #[]), .int .i64 1]) w2) ∧
  ((!b13) = false →
  Alloc #[.int .i64 0] 3 w2 fun k4 w3 =>
  St ⟨k4, 0, none⟩ (.int .i64 0) w3 fun w4 =>
  Join (fun vs w5 => vs = [] ∧
  ∃ n18 : Int, w5.cell? ⟨k1, 0, none⟩ = some (.int .u64 n18) ∧
  ∃ n20 : Int, w5.cell? ⟨k1, 1, none⟩ = some (.int .u64 n20) ∧
  Alloc #[.int .u64 827610706, .int .u64 n18, .int .u64 n20] 53 w5 fun k21 w6 =>
  Calls Try.prog 62 #[.pointer (some ⟨k1, 0, none⟩), .pointer (some ⟨k4, 0, none⟩)] w6 fun e_1 w7 => ∃ (p22 : Option Addr) (l22 c22 : Nat), e_1 = .returned (.slice p22 l22 c22) ∧
  LoopP (fun I => I [.slice (some ⟨k21, 0, none⟩) 3 3, .int .i64 0] w7) fun K vs_1 w8 => ∃ (p5 : Option Addr) (l5 c5 : Nat), ∃ n24 : Int, vs_1 = [.slice p5 l5 c5, .int .i64 n24] ∧
  ((decide (n24 < (l22 : Int))) = true →
  ∃ a26 : Addr, p22 = some a26 ∧ (0 : Int) ≤ n24 ∧ n24 < (l22 : Int) ∧
  ∃ p27_0 : Option Addr, ∃ n27_1 : Int, (w8.cell? (Addr.add a26 (n24.toNat * 2)) = some (.pointer p27_0) ∧ w8.cell? (Addr.add (Addr.add a26 (n24.toNat * 2)) 1) = some (.int .i64 n27_1)) ∧
  Alloc #[.pointer none, .int .i64 0] 99 w8 fun k7 w9 =>
  St ⟨k7, 0, none⟩ (.pointer p27_0) w9 fun w10 =>
  St ⟨k7, 1, none⟩ (.int .i64 n27_1) w10 fun w11 =>
  ∃ p30 : Option Addr, w11.cell? ⟨k7, 0, none⟩ = some (.pointer p30) ∧
  ∃ a31 : Addr, p30 = some a31 ∧
  ∃ n32 : Int, w11.cell? a31 = some (.int .i64 n32) ∧
  Alloc #[.int .u64 (IntKind.u64.wrap n32)] 53 w11 fun k34 w12 =>
  ∃ (p35 : Option Addr) (l35 c35 : Nat), ∃ w13, (builtin .append #[94, 94] 94 #[false, false] #[.slice p5 l5 c5, .slice (some ⟨k34, 0, none⟩) 1 1]).run Try.prog w12 = .ok (.value (.slice p35 l35 c35)) w13 ∧
  K [.slice p35 l35 c35, .int .i64 (IntKind.i64.wrap (n24 + 1))] w13) ∧
  ((decide (n24 < (l22 : Int))) = false →
  Calls Try.prog 64 #[] w8 fun e_2 w14 => ∃ (p39 : Option Addr) (l39 c39 : Nat), e_2 = .returned (.slice p39 l39 c39) ∧
  Calls Try.prog 63 #[.slice p5 l5 c5, .slice p39 l39 c39] w14 fun e_3 w15 => ∃ s40_0 : ByteArray, ∃ n40_1 : Int, e_3 = .returned (.tuple #[.string s40_0, .int .i64 n40_1]) ∧
  Calls Try.prog 65 #[.string s40_0, .int .i64 64] w15 fun e_4 w16 => ∃ s45_0 : ByteArray, ∃ b45_1 : Bool, e_4 = .returned (.tuple #[.string s45_0, .bool b45_1]) ∧
  ((!b45_1) = true →
  R (.tuple #[.string (ByteArray.mk #[]), .int .i64 1]) w16) ∧
  ((!b45_1) = false →
  R (.tuple #[.string s45_0, .int .i64 n40_1]) w16))) fun J =>
  ∃ b16 : Bool, w4.cell? ⟨k1, 6, none⟩ = some (.bool b16) ∧
  (b16 = true →
  St ⟨k4, 0, none⟩ (.int .i64 1) w4 fun w17 =>
  J [] w17) ∧
  (b16 = false →
  J [] w4))
theorem super_Encode_eq (n0_0 : Int) (n0_1 : Int) (n0_2 : Int) (n0_3 : Int) (n0_4 : Int) (n0_5 : Int) (b0_6 : Bool) (n0_7 : Int) (n0_8 : Int) (n0_9 : Int) (w : World) (R : Value → World → Prop) : super_Encode n0_0 n0_1 n0_2 n0_3 n0_4 n0_5 b0_6 n0_7 n0_8 n0_9 w R = fnP Try.prog Try.f36 (.s .o (.s .o (.s .o (.j [] .o (.s .o (.s (.s .o (.b (.l [(5, .one .slice), (24, .one (.int .i64))] .o))) .o)))))) [.agg #[.int .u64 n0_0, .int .u64 n0_1, .int .i64 n0_2, .int .i64 n0_3, .int .i64 n0_4, .int .i64 n0_5, .bool b0_6, .int .i64 n0_7, .int .i64 n0_8, .int .i64 n0_9]] w R := by kernel_rfl
theorem super_Encode_calls {n0_0 : Int} {n0_1 : Int} {n0_2 : Int} {n0_3 : Int} {n0_4 : Int} {n0_5 : Int} {b0_6 : Bool} {n0_7 : Int} {n0_8 : Int} {n0_9 : Int} {w : World} {R : Value → World → Prop} (h : super_Encode n0_0 n0_1 n0_2 n0_3 n0_4 n0_5 b0_6 n0_7 n0_8 n0_9 w R) : Calls Try.prog 36 #[.agg #[.int .u64 n0_0, .int .u64 n0_1, .int .i64 n0_2, .int .i64 n0_3, .int .i64 n0_4, .int .i64 n0_5, .bool b0_6, .int .i64 n0_7, .int .i64 n0_8, .int .i64 n0_9]] w fun e w1 => ∃ v, e = .returned v ∧ R v w1 := fnP_calls callable Try.func36 (super_Encode_eq n0_0 n0_1 n0_2 n0_3 n0_4 n0_5 b0_6 n0_7 n0_8 n0_9 w R ▸ h)

/-- revetment/slots.Next -/
def slots_Next (p0 : Option Addr) (n1_0 : Int) (n1_1 : Int) (n1_2 : Int) (n1_3 : Int) (n1_4 : Int) (n1_5 : Int) (b1_6 : Bool) (n1_7 : Int) (n1_8 : Int) (n1_9 : Int) (w : World) (R : Value → World → Prop) : Prop :=
  Alloc #[.int .u64 n1_0, .int .u64 n1_1, .int .i64 n1_2, .int .i64 n1_3, .int .i64 n1_4, .int .i64 n1_5, .bool b1_6, .int .i64 n1_7, .int .i64 n1_8, .int .i64 n1_9] 58 w fun k3 w1 =>
  Alloc #[.int .u64 0, .int .u64 0, .int .i64 0, .int .i64 0, .int .i64 0, .int .i64 0, .bool false, .int .i64 0, .int .i64 0, .int .i64 0] 58 w1 fun k4 w2 =>
  Join (fun vs w3 => vs = [] ∧
  ∃ n20 : Int, w3.cell? ⟨k3, 1, none⟩ = some (.int .u64 n20) ∧
  St ⟨k3, 1, none⟩ (.int .u64 (IntKind.u64.wrap (n20 + 1))) w3 fun w4 =>
  ∃ n24_0 : Int, ∃ n24_1 : Int, ∃ n24_2 : Int, ∃ n24_3 : Int, ∃ n24_4 : Int, ∃ n24_5 : Int, ∃ b24_6 : Bool, ∃ n24_7 : Int, ∃ n24_8 : Int, ∃ n24_9 : Int, (w4.cell? ⟨k3, 0, none⟩ = some (.int .u64 n24_0) ∧ w4.cell? ⟨k3, 1, none⟩ = some (.int .u64 n24_1) ∧ w4.cell? ⟨k3, 2, none⟩ = some (.int .i64 n24_2) ∧ w4.cell? ⟨k3, 3, none⟩ = some (.int .i64 n24_3) ∧ w4.cell? ⟨k3, 4, none⟩ = some (.int .i64 n24_4) ∧ w4.cell? ⟨k3, 5, none⟩ = some (.int .i64 n24_5) ∧ w4.cell? ⟨k3, 6, none⟩ = some (.bool b24_6) ∧ w4.cell? ⟨k3, 7, none⟩ = some (.int .i64 n24_7) ∧ w4.cell? ⟨k3, 8, none⟩ = some (.int .i64 n24_8) ∧ w4.cell? ⟨k3, 9, none⟩ = some (.int .i64 n24_9)) ∧
  Calls Try.prog 35 #[.pointer p0, .agg #[.int .u64 n24_0, .int .u64 n24_1, .int .i64 n24_2, .int .i64 n24_3, .int .i64 n24_4, .int .i64 n24_5, .bool b24_6, .int .i64 n24_7, .int .i64 n24_8, .int .i64 n24_9]] w4 fun e w5 => ∃ n25 : Int, e = .returned (.int .i64 n25) ∧
  ((n25 != 0) = true →
  St ⟨k4, 0, none⟩ (.int .u64 0) w5 fun w6 =>
  St ⟨k4, 1, none⟩ (.int .u64 0) w6 fun w7 =>
  St ⟨k4, 2, none⟩ (.int .i64 0) w7 fun w8 =>
  St ⟨k4, 3, none⟩ (.int .i64 0) w8 fun w9 =>
  St ⟨k4, 4, none⟩ (.int .i64 0) w9 fun w10 =>
  St ⟨k4, 5, none⟩ (.int .i64 0) w10 fun w11 =>
  St ⟨k4, 6, none⟩ (.bool false) w11 fun w12 =>
  St ⟨k4, 7, none⟩ (.int .i64 0) w12 fun w13 =>
  St ⟨k4, 8, none⟩ (.int .i64 0) w13 fun w14 =>
  St ⟨k4, 9, none⟩ (.int .i64 0) w14 fun w15 =>
  ∃ nr4_0 : Int, ∃ nr4_1 : Int, ∃ nr4_2 : Int, ∃ nr4_3 : Int, ∃ nr4_4 : Int, ∃ nr4_5 : Int, ∃ br4_6 : Bool, ∃ nr4_7 : Int, ∃ nr4_8 : Int, ∃ nr4_9 : Int, (w15.cell? ⟨k4, 0, none⟩ = some (.int .u64 nr4_0) ∧ w15.cell? ⟨k4, 1, none⟩ = some (.int .u64 nr4_1) ∧ w15.cell? ⟨k4, 2, none⟩ = some (.int .i64 nr4_2) ∧ w15.cell? ⟨k4, 3, none⟩ = some (.int .i64 nr4_3) ∧ w15.cell? ⟨k4, 4, none⟩ = some (.int .i64 nr4_4) ∧ w15.cell? ⟨k4, 5, none⟩ = some (.int .i64 nr4_5) ∧ w15.cell? ⟨k4, 6, none⟩ = some (.bool br4_6) ∧ w15.cell? ⟨k4, 7, none⟩ = some (.int .i64 nr4_7) ∧ w15.cell? ⟨k4, 8, none⟩ = some (.int .i64 nr4_8) ∧ w15.cell? ⟨k4, 9, none⟩ = some (.int .i64 nr4_9)) ∧
  R (.tuple #[.agg #[.int .u64 nr4_0, .int .u64 nr4_1, .int .i64 nr4_2, .int .i64 nr4_3, .int .i64 nr4_4, .int .i64 nr4_5, .bool br4_6, .int .i64 nr4_7, .int .i64 nr4_8, .int .i64 nr4_9], .int .i64 n25]) w15) ∧
  ((n25 != 0) = false →
  ∃ n30_0 : Int, ∃ n30_1 : Int, ∃ n30_2 : Int, ∃ n30_3 : Int, ∃ n30_4 : Int, ∃ n30_5 : Int, ∃ b30_6 : Bool, ∃ n30_7 : Int, ∃ n30_8 : Int, ∃ n30_9 : Int, (w5.cell? ⟨k3, 0, none⟩ = some (.int .u64 n30_0) ∧ w5.cell? ⟨k3, 1, none⟩ = some (.int .u64 n30_1) ∧ w5.cell? ⟨k3, 2, none⟩ = some (.int .i64 n30_2) ∧ w5.cell? ⟨k3, 3, none⟩ = some (.int .i64 n30_3) ∧ w5.cell? ⟨k3, 4, none⟩ = some (.int .i64 n30_4) ∧ w5.cell? ⟨k3, 5, none⟩ = some (.int .i64 n30_5) ∧ w5.cell? ⟨k3, 6, none⟩ = some (.bool b30_6) ∧ w5.cell? ⟨k3, 7, none⟩ = some (.int .i64 n30_7) ∧ w5.cell? ⟨k3, 8, none⟩ = some (.int .i64 n30_8) ∧ w5.cell? ⟨k3, 9, none⟩ = some (.int .i64 n30_9)) ∧
  St ⟨k4, 0, none⟩ (.int .u64 n30_0) w5 fun w16 =>
  St ⟨k4, 1, none⟩ (.int .u64 n30_1) w16 fun w17 =>
  St ⟨k4, 2, none⟩ (.int .i64 n30_2) w17 fun w18 =>
  St ⟨k4, 3, none⟩ (.int .i64 n30_3) w18 fun w19 =>
  St ⟨k4, 4, none⟩ (.int .i64 n30_4) w19 fun w20 =>
  St ⟨k4, 5, none⟩ (.int .i64 n30_5) w20 fun w21 =>
  St ⟨k4, 6, none⟩ (.bool b30_6) w21 fun w22 =>
  St ⟨k4, 7, none⟩ (.int .i64 n30_7) w22 fun w23 =>
  St ⟨k4, 8, none⟩ (.int .i64 n30_8) w23 fun w24 =>
  St ⟨k4, 9, none⟩ (.int .i64 n30_9) w24 fun w25 =>
  ∃ nr4_0_1 : Int, ∃ nr4_1_1 : Int, ∃ nr4_2_1 : Int, ∃ nr4_3_1 : Int, ∃ nr4_4_1 : Int, ∃ nr4_5_1 : Int, ∃ br4_6_1 : Bool, ∃ nr4_7_1 : Int, ∃ nr4_8_1 : Int, ∃ nr4_9_1 : Int, (w25.cell? ⟨k4, 0, none⟩ = some (.int .u64 nr4_0_1) ∧ w25.cell? ⟨k4, 1, none⟩ = some (.int .u64 nr4_1_1) ∧ w25.cell? ⟨k4, 2, none⟩ = some (.int .i64 nr4_2_1) ∧ w25.cell? ⟨k4, 3, none⟩ = some (.int .i64 nr4_3_1) ∧ w25.cell? ⟨k4, 4, none⟩ = some (.int .i64 nr4_4_1) ∧ w25.cell? ⟨k4, 5, none⟩ = some (.int .i64 nr4_5_1) ∧ w25.cell? ⟨k4, 6, none⟩ = some (.bool br4_6_1) ∧ w25.cell? ⟨k4, 7, none⟩ = some (.int .i64 nr4_7_1) ∧ w25.cell? ⟨k4, 8, none⟩ = some (.int .i64 nr4_8_1) ∧ w25.cell? ⟨k4, 9, none⟩ = some (.int .i64 nr4_9_1)) ∧
  R (.tuple #[.agg #[.int .u64 nr4_0_1, .int .u64 nr4_1_1, .int .i64 nr4_2_1, .int .i64 nr4_3_1, .int .i64 nr4_4_1, .int .i64 nr4_5_1, .bool br4_6_1, .int .i64 nr4_7_1, .int .i64 nr4_8_1, .int .i64 nr4_9_1], .int .i64 0]) w25)) fun J =>
  Calls Try.prog 33 #[.pointer p0] w2 fun e_1 w26 => ∃ n11_0_0 : Int, ∃ n11_0_1 : Int, ∃ n11_0_2 : Int, ∃ n11_0_3 : Int, ∃ n11_0_4 : Int, ∃ n11_0_5 : Int, ∃ b11_0_6 : Bool, ∃ n11_0_7 : Int, ∃ n11_0_8 : Int, ∃ n11_0_9 : Int, ∃ n11_1 : Int, e_1 = .returned (.tuple #[.agg #[.int .u64 n11_0_0, .int .u64 n11_0_1, .int .i64 n11_0_2, .int .i64 n11_0_3, .int .i64 n11_0_4, .int .i64 n11_0_5, .bool b11_0_6, .int .i64 n11_0_7, .int .i64 n11_0_8, .int .i64 n11_0_9], .int .i64 n11_1]) ∧
  Alloc #[.int .u64 0, .int .u64 0, .int .i64 0, .int .i64 0, .int .i64 0, .int .i64 0, .bool false, .int .i64 0, .int .i64 0, .int .i64 0] 58 w26 fun k6 w27 =>
  St ⟨k6, 0, none⟩ (.int .u64 n11_0_0) w27 fun w28 =>
  St ⟨k6, 1, none⟩ (.int .u64 n11_0_1) w28 fun w29 =>
  St ⟨k6, 2, none⟩ (.int .i64 n11_0_2) w29 fun w30 =>
  St ⟨k6, 3, none⟩ (.int .i64 n11_0_3) w30 fun w31 =>
  St ⟨k6, 4, none⟩ (.int .i64 n11_0_4) w31 fun w32 =>
  St ⟨k6, 5, none⟩ (.int .i64 n11_0_5) w32 fun w33 =>
  St ⟨k6, 6, none⟩ (.bool b11_0_6) w33 fun w34 =>
  St ⟨k6, 7, none⟩ (.int .i64 n11_0_7) w34 fun w35 =>
  St ⟨k6, 8, none⟩ (.int .i64 n11_0_8) w35 fun w36 =>
  St ⟨k6, 9, none⟩ (.int .i64 n11_0_9) w36 fun w37 =>
  ((n11_1 == 0) = true →
  ∃ n17 : Int, w37.cell? ⟨k6, 1, none⟩ = some (.int .u64 n17) ∧
  St ⟨k3, 1, none⟩ (.int .u64 n17) w37 fun w38 =>
  J [] w38) ∧
  ((n11_1 == 0) = false →
  J [] w37)
theorem slots_Next_eq (p0 : Option Addr) (n1_0 : Int) (n1_1 : Int) (n1_2 : Int) (n1_3 : Int) (n1_4 : Int) (n1_5 : Int) (b1_6 : Bool) (n1_7 : Int) (n1_8 : Int) (n1_9 : Int) (w : World) (R : Value → World → Prop) : slots_Next p0 n1_0 n1_1 n1_2 n1_3 n1_4 n1_5 b1_6 n1_7 n1_8 n1_9 w R = fnP Try.prog Try.f37 (.s .o (.j [] .o .o)) [.pointer p0, .agg #[.int .u64 n1_0, .int .u64 n1_1, .int .i64 n1_2, .int .i64 n1_3, .int .i64 n1_4, .int .i64 n1_5, .bool b1_6, .int .i64 n1_7, .int .i64 n1_8, .int .i64 n1_9]] w R := by kernel_rfl
theorem slots_Next_calls {p0 : Option Addr} {n1_0 : Int} {n1_1 : Int} {n1_2 : Int} {n1_3 : Int} {n1_4 : Int} {n1_5 : Int} {b1_6 : Bool} {n1_7 : Int} {n1_8 : Int} {n1_9 : Int} {w : World} {R : Value → World → Prop} (h : slots_Next p0 n1_0 n1_1 n1_2 n1_3 n1_4 n1_5 b1_6 n1_7 n1_8 n1_9 w R) : Calls Try.prog 37 #[.pointer p0, .agg #[.int .u64 n1_0, .int .u64 n1_1, .int .i64 n1_2, .int .i64 n1_3, .int .i64 n1_4, .int .i64 n1_5, .bool b1_6, .int .i64 n1_7, .int .i64 n1_8, .int .i64 n1_9]] w fun e w1 => ∃ v, e = .returned v ∧ R v w1 := fnP_calls callable Try.func37 (slots_Next_eq p0 n1_0 n1_1 n1_2 n1_3 n1_4 n1_5 b1_6 n1_7 n1_8 n1_9 w R ▸ h)

/-- revetment/slots.Both -/
def slots_Both (p0 : Option Addr) (w : World) (R : Value → World → Prop) : Prop :=
  Alloc #[.int .u64 0, .int .u64 0, .int .i64 0, .int .i64 0, .int .i64 0, .int .i64 0, .bool false, .int .i64 0, .int .i64 0, .int .i64 0, .int .u64 0, .int .u64 0, .int .i64 0, .int .i64 0, .int .i64 0, .int .i64 0, .bool false, .int .i64 0, .int .i64 0, .int .i64 0] 67 w fun k2 w1 =>
  Alloc #[.bool false, .bool false] 68 w1 fun k3 w2 =>
  LoopP (fun I => I [.int .i64 0] w2) fun K vs w3 => ∃ n8 : Int, vs = [.int .i64 n8] ∧
  ((decide (n8 < 2)) = true →
  Calls Try.prog 18 #[.pointer p0, .int .i64 n8] w3 fun e w4 => ∃ s14_0 : ByteArray, ∃ n14_1 : Int, e = .returned (.tuple #[.string s14_0, .int .i64 n14_1]) ∧
  ((n14_1 != 0) = true →
  K [.int .i64 (IntKind.i64.wrap (n8 + 1))] w4) ∧
  ((n14_1 != 0) = false →
  Calls Try.prog 66 #[.string s14_0] w4 fun e_1 w5 => ∃ n21_0_0 : Int, ∃ n21_0_1 : Int, ∃ n21_0_2 : Int, ∃ n21_0_3 : Int, ∃ n21_0_4 : Int, ∃ n21_0_5 : Int, ∃ b21_0_6 : Bool, ∃ n21_0_7 : Int, ∃ n21_0_8 : Int, ∃ n21_0_9 : Int, ∃ n21_1 : Int, e_1 = .returned (.tuple #[.agg #[.int .u64 n21_0_0, .int .u64 n21_0_1, .int .i64 n21_0_2, .int .i64 n21_0_3, .int .i64 n21_0_4, .int .i64 n21_0_5, .bool b21_0_6, .int .i64 n21_0_7, .int .i64 n21_0_8, .int .i64 n21_0_9], .int .i64 n21_1]) ∧
  Alloc #[.int .u64 0, .int .u64 0, .int .i64 0, .int .i64 0, .int .i64 0, .int .i64 0, .bool false, .int .i64 0, .int .i64 0, .int .i64 0] 58 w5 fun k7 w6 =>
  St ⟨k7, 0, none⟩ (.int .u64 n21_0_0) w6 fun w7 =>
  St ⟨k7, 1, none⟩ (.int .u64 n21_0_1) w7 fun w8 =>
  St ⟨k7, 2, none⟩ (.int .i64 n21_0_2) w8 fun w9 =>
  St ⟨k7, 3, none⟩ (.int .i64 n21_0_3) w9 fun w10 =>
  St ⟨k7, 4, none⟩ (.int .i64 n21_0_4) w10 fun w11 =>
  St ⟨k7, 5, none⟩ (.int .i64 n21_0_5) w11 fun w12 =>
  St ⟨k7, 6, none⟩ (.bool b21_0_6) w12 fun w13 =>
  St ⟨k7, 7, none⟩ (.int .i64 n21_0_7) w13 fun w14 =>
  St ⟨k7, 8, none⟩ (.int .i64 n21_0_8) w14 fun w15 =>
  St ⟨k7, 9, none⟩ (.int .i64 n21_0_9) w15 fun w16 =>
  (0 : Int) ≤ n8 ∧ n8 < (2 : Int) ∧
  St (Addr.add ⟨k3, 0, none⟩ (n8.toNat * 1)) (.bool (n21_1 == 0)) w16 fun w17 =>
  (0 : Int) ≤ n8 ∧ n8 < (2 : Int) ∧
  ∃ b30 : Bool, w17.cell? (Addr.add ⟨k3, 0, none⟩ (n8.toNat * 1)) = some (.bool b30) ∧
  (b30 = true →
  ∃ n32_0 : Int, ∃ n32_1 : Int, ∃ n32_2 : Int, ∃ n32_3 : Int, ∃ n32_4 : Int, ∃ n32_5 : Int, ∃ b32_6 : Bool, ∃ n32_7 : Int, ∃ n32_8 : Int, ∃ n32_9 : Int, (w17.cell? ⟨k7, 0, none⟩ = some (.int .u64 n32_0) ∧ w17.cell? ⟨k7, 1, none⟩ = some (.int .u64 n32_1) ∧ w17.cell? ⟨k7, 2, none⟩ = some (.int .i64 n32_2) ∧ w17.cell? ⟨k7, 3, none⟩ = some (.int .i64 n32_3) ∧ w17.cell? ⟨k7, 4, none⟩ = some (.int .i64 n32_4) ∧ w17.cell? ⟨k7, 5, none⟩ = some (.int .i64 n32_5) ∧ w17.cell? ⟨k7, 6, none⟩ = some (.bool b32_6) ∧ w17.cell? ⟨k7, 7, none⟩ = some (.int .i64 n32_7) ∧ w17.cell? ⟨k7, 8, none⟩ = some (.int .i64 n32_8) ∧ w17.cell? ⟨k7, 9, none⟩ = some (.int .i64 n32_9)) ∧
  (0 : Int) ≤ n8 ∧ n8 < (2 : Int) ∧
  St (Addr.add ⟨k2, 0, none⟩ (n8.toNat * 10)) (.int .u64 n32_0) w17 fun w18 =>
  St (Addr.add (Addr.add ⟨k2, 0, none⟩ (n8.toNat * 10)) 1) (.int .u64 n32_1) w18 fun w19 =>
  St (Addr.add (Addr.add ⟨k2, 0, none⟩ (n8.toNat * 10)) 2) (.int .i64 n32_2) w19 fun w20 =>
  St (Addr.add (Addr.add ⟨k2, 0, none⟩ (n8.toNat * 10)) 3) (.int .i64 n32_3) w20 fun w21 =>
  St (Addr.add (Addr.add ⟨k2, 0, none⟩ (n8.toNat * 10)) 4) (.int .i64 n32_4) w21 fun w22 =>
  St (Addr.add (Addr.add ⟨k2, 0, none⟩ (n8.toNat * 10)) 5) (.int .i64 n32_5) w22 fun w23 =>
  St (Addr.add (Addr.add ⟨k2, 0, none⟩ (n8.toNat * 10)) 6) (.bool b32_6) w23 fun w24 =>
  St (Addr.add (Addr.add ⟨k2, 0, none⟩ (n8.toNat * 10)) 7) (.int .i64 n32_7) w24 fun w25 =>
  St (Addr.add (Addr.add ⟨k2, 0, none⟩ (n8.toNat * 10)) 8) (.int .i64 n32_8) w25 fun w26 =>
  St (Addr.add (Addr.add ⟨k2, 0, none⟩ (n8.toNat * 10)) 9) (.int .i64 n32_9) w26 fun w27 =>
  K [.int .i64 (IntKind.i64.wrap (n8 + 1))] w27) ∧
  (b30 = false →
  K [.int .i64 (IntKind.i64.wrap (n8 + 1))] w17))) ∧
  ((decide (n8 < 2)) = false →
  ∃ D : World → Prop, D w3.drew ∧
  ∃ n35_0 : Int, ∃ n35_1 : Int, ∃ n35_2 : Int, ∃ n35_3 : Int, ∃ n35_4 : Int, ∃ n35_5 : Int, ∃ b35_6 : Bool, ∃ n35_7 : Int, ∃ n35_8 : Int, ∃ n35_9 : Int, ∃ n35_10 : Int, ∃ n35_11 : Int, ∃ n35_12 : Int, ∃ n35_13 : Int, ∃ n35_14 : Int, ∃ n35_15 : Int, ∃ b35_16 : Bool, ∃ n35_17 : Int, ∃ n35_18 : Int, ∃ n35_19 : Int, (∀ w, D w → w.cell? ⟨k2, 0, none⟩ = some (.int .u64 n35_0) ∧ w.cell? ⟨k2, 1, none⟩ = some (.int .u64 n35_1) ∧ w.cell? ⟨k2, 2, none⟩ = some (.int .i64 n35_2) ∧ w.cell? ⟨k2, 3, none⟩ = some (.int .i64 n35_3) ∧ w.cell? ⟨k2, 4, none⟩ = some (.int .i64 n35_4) ∧ w.cell? ⟨k2, 5, none⟩ = some (.int .i64 n35_5) ∧ w.cell? ⟨k2, 6, none⟩ = some (.bool b35_6) ∧ w.cell? ⟨k2, 7, none⟩ = some (.int .i64 n35_7) ∧ w.cell? ⟨k2, 8, none⟩ = some (.int .i64 n35_8) ∧ w.cell? ⟨k2, 9, none⟩ = some (.int .i64 n35_9) ∧ w.cell? ⟨k2, 10, none⟩ = some (.int .u64 n35_10) ∧ w.cell? ⟨k2, 11, none⟩ = some (.int .u64 n35_11) ∧ w.cell? ⟨k2, 12, none⟩ = some (.int .i64 n35_12) ∧ w.cell? ⟨k2, 13, none⟩ = some (.int .i64 n35_13) ∧ w.cell? ⟨k2, 14, none⟩ = some (.int .i64 n35_14) ∧ w.cell? ⟨k2, 15, none⟩ = some (.int .i64 n35_15) ∧ w.cell? ⟨k2, 16, none⟩ = some (.bool b35_16) ∧ w.cell? ⟨k2, 17, none⟩ = some (.int .i64 n35_17) ∧ w.cell? ⟨k2, 18, none⟩ = some (.int .i64 n35_18) ∧ w.cell? ⟨k2, 19, none⟩ = some (.int .i64 n35_19)) ∧
  ∃ b36_0 : Bool, ∃ b36_1 : Bool, (∀ w, D w → w.cell? ⟨k3, 0, none⟩ = some (.bool b36_0) ∧ w.cell? ⟨k3, 1, none⟩ = some (.bool b36_1)) ∧
  St ⟨k2, 0, none⟩ (.int .u64 n35_0) w3.drew fun w28 =>
  St ⟨k2, 1, none⟩ (.int .u64 n35_1) w28 fun w29 =>
  St ⟨k2, 2, none⟩ (.int .i64 n35_2) w29 fun w30 =>
  St ⟨k2, 3, none⟩ (.int .i64 n35_3) w30 fun w31 =>
  St ⟨k2, 4, none⟩ (.int .i64 n35_4) w31 fun w32 =>
  St ⟨k2, 5, none⟩ (.int .i64 n35_5) w32 fun w33 =>
  St ⟨k2, 6, none⟩ (.bool b35_6) w33 fun w34 =>
  St ⟨k2, 7, none⟩ (.int .i64 n35_7) w34 fun w35 =>
  St ⟨k2, 8, none⟩ (.int .i64 n35_8) w35 fun w36 =>
  St ⟨k2, 9, none⟩ (.int .i64 n35_9) w36 fun w37 =>
  St ⟨k2, 10, none⟩ (.int .u64 n35_10) w37 fun w38 =>
  St ⟨k2, 11, none⟩ (.int .u64 n35_11) w38 fun w39 =>
  St ⟨k2, 12, none⟩ (.int .i64 n35_12) w39 fun w40 =>
  St ⟨k2, 13, none⟩ (.int .i64 n35_13) w40 fun w41 =>
  St ⟨k2, 14, none⟩ (.int .i64 n35_14) w41 fun w42 =>
  St ⟨k2, 15, none⟩ (.int .i64 n35_15) w42 fun w43 =>
  St ⟨k2, 16, none⟩ (.bool b35_16) w43 fun w44 =>
  St ⟨k2, 17, none⟩ (.int .i64 n35_17) w44 fun w45 =>
  St ⟨k2, 18, none⟩ (.int .i64 n35_18) w45 fun w46 =>
  St ⟨k2, 19, none⟩ (.int .i64 n35_19) w46 fun w47 =>
  D w47 ∧
  St ⟨k3, 0, none⟩ (.bool b36_0) w47 fun w48 =>
  St ⟨k3, 1, none⟩ (.bool b36_1) w48 fun w49 =>
  ∃ nr2_0 : Int, ∃ nr2_1 : Int, ∃ nr2_2 : Int, ∃ nr2_3 : Int, ∃ nr2_4 : Int, ∃ nr2_5 : Int, ∃ br2_6 : Bool, ∃ nr2_7 : Int, ∃ nr2_8 : Int, ∃ nr2_9 : Int, ∃ nr2_10 : Int, ∃ nr2_11 : Int, ∃ nr2_12 : Int, ∃ nr2_13 : Int, ∃ nr2_14 : Int, ∃ nr2_15 : Int, ∃ br2_16 : Bool, ∃ nr2_17 : Int, ∃ nr2_18 : Int, ∃ nr2_19 : Int, (w49.cell? ⟨k2, 0, none⟩ = some (.int .u64 nr2_0) ∧ w49.cell? ⟨k2, 1, none⟩ = some (.int .u64 nr2_1) ∧ w49.cell? ⟨k2, 2, none⟩ = some (.int .i64 nr2_2) ∧ w49.cell? ⟨k2, 3, none⟩ = some (.int .i64 nr2_3) ∧ w49.cell? ⟨k2, 4, none⟩ = some (.int .i64 nr2_4) ∧ w49.cell? ⟨k2, 5, none⟩ = some (.int .i64 nr2_5) ∧ w49.cell? ⟨k2, 6, none⟩ = some (.bool br2_6) ∧ w49.cell? ⟨k2, 7, none⟩ = some (.int .i64 nr2_7) ∧ w49.cell? ⟨k2, 8, none⟩ = some (.int .i64 nr2_8) ∧ w49.cell? ⟨k2, 9, none⟩ = some (.int .i64 nr2_9) ∧ w49.cell? ⟨k2, 10, none⟩ = some (.int .u64 nr2_10) ∧ w49.cell? ⟨k2, 11, none⟩ = some (.int .u64 nr2_11) ∧ w49.cell? ⟨k2, 12, none⟩ = some (.int .i64 nr2_12) ∧ w49.cell? ⟨k2, 13, none⟩ = some (.int .i64 nr2_13) ∧ w49.cell? ⟨k2, 14, none⟩ = some (.int .i64 nr2_14) ∧ w49.cell? ⟨k2, 15, none⟩ = some (.int .i64 nr2_15) ∧ w49.cell? ⟨k2, 16, none⟩ = some (.bool br2_16) ∧ w49.cell? ⟨k2, 17, none⟩ = some (.int .i64 nr2_17) ∧ w49.cell? ⟨k2, 18, none⟩ = some (.int .i64 nr2_18) ∧ w49.cell? ⟨k2, 19, none⟩ = some (.int .i64 nr2_19)) ∧
  ∃ br3_0 : Bool, ∃ br3_1 : Bool, (w49.cell? ⟨k3, 0, none⟩ = some (.bool br3_0) ∧ w49.cell? ⟨k3, 1, none⟩ = some (.bool br3_1)) ∧
  R (.tuple #[.agg #[.int .u64 nr2_0, .int .u64 nr2_1, .int .i64 nr2_2, .int .i64 nr2_3, .int .i64 nr2_4, .int .i64 nr2_5, .bool br2_6, .int .i64 nr2_7, .int .i64 nr2_8, .int .i64 nr2_9, .int .u64 nr2_10, .int .u64 nr2_11, .int .i64 nr2_12, .int .i64 nr2_13, .int .i64 nr2_14, .int .i64 nr2_15, .bool br2_16, .int .i64 nr2_17, .int .i64 nr2_18, .int .i64 nr2_19], .agg #[.bool br3_0, .bool br3_1]]) w49)
theorem slots_Both_eq (p0 : Option Addr) (w : World) (R : Value → World → Prop) : slots_Both p0 w R = fnP Try.prog Try.f38 (.s .o (.s (.s .o (.b (.l [(8, .one (.int .i64))] .o))) .o)) [.pointer p0] w R := by kernel_rfl
theorem slots_Both_calls {p0 : Option Addr} {w : World} {R : Value → World → Prop} (h : slots_Both p0 w R) : Calls Try.prog 38 #[.pointer p0] w fun e w1 => ∃ v, e = .returned v ∧ R v w1 := fnP_calls callable Try.func38 (slots_Both_eq p0 w R ▸ h)

/-- revetment/revetmentlaw09.same -/
def revetmentlaw09_same (p0 : Option Addr) (p1 : Option Addr) (w : World) (R : Value → World → Prop) : Prop :=
  Calls Try.prog 33 #[.pointer p0] w fun e w1 => ∃ n16_0_0 : Int, ∃ n16_0_1 : Int, ∃ n16_0_2 : Int, ∃ n16_0_3 : Int, ∃ n16_0_4 : Int, ∃ n16_0_5 : Int, ∃ b16_0_6 : Bool, ∃ n16_0_7 : Int, ∃ n16_0_8 : Int, ∃ n16_0_9 : Int, ∃ n16_1 : Int, e = .returned (.tuple #[.agg #[.int .u64 n16_0_0, .int .u64 n16_0_1, .int .i64 n16_0_2, .int .i64 n16_0_3, .int .i64 n16_0_4, .int .i64 n16_0_5, .bool b16_0_6, .int .i64 n16_0_7, .int .i64 n16_0_8, .int .i64 n16_0_9], .int .i64 n16_1]) ∧
  Alloc #[.int .u64 0, .int .u64 0, .int .i64 0, .int .i64 0, .int .i64 0, .int .i64 0, .bool false, .int .i64 0, .int .i64 0, .int .i64 0] 58 w1 fun k5 w2 =>
  St ⟨k5, 0, none⟩ (.int .u64 n16_0_0) w2 fun w3 =>
  St ⟨k5, 1, none⟩ (.int .u64 n16_0_1) w3 fun w4 =>
  St ⟨k5, 2, none⟩ (.int .i64 n16_0_2) w4 fun w5 =>
  St ⟨k5, 3, none⟩ (.int .i64 n16_0_3) w5 fun w6 =>
  St ⟨k5, 4, none⟩ (.int .i64 n16_0_4) w6 fun w7 =>
  St ⟨k5, 5, none⟩ (.int .i64 n16_0_5) w7 fun w8 =>
  St ⟨k5, 6, none⟩ (.bool b16_0_6) w8 fun w9 =>
  St ⟨k5, 7, none⟩ (.int .i64 n16_0_7) w9 fun w10 =>
  St ⟨k5, 8, none⟩ (.int .i64 n16_0_8) w10 fun w11 =>
  St ⟨k5, 9, none⟩ (.int .i64 n16_0_9) w11 fun w12 =>
  Calls Try.prog 68 #[.pointer p1] w12 fun e_1 w13 => ∃ n21_0_0 : Int, ∃ n21_0_1 : Int, ∃ n21_0_2 : Int, ∃ n21_0_3 : Int, ∃ n21_0_4 : Int, ∃ n21_0_5 : Int, ∃ b21_0_6 : Bool, ∃ n21_0_7 : Int, ∃ n21_0_8 : Int, ∃ n21_0_9 : Int, ∃ n21_1 : Int, e_1 = .returned (.tuple #[.agg #[.int .u64 n21_0_0, .int .u64 n21_0_1, .int .i64 n21_0_2, .int .i64 n21_0_3, .int .i64 n21_0_4, .int .i64 n21_0_5, .bool b21_0_6, .int .i64 n21_0_7, .int .i64 n21_0_8, .int .i64 n21_0_9], .int .i64 n21_1]) ∧
  Alloc #[.int .u64 0, .int .u64 0, .int .i64 0, .int .i64 0, .int .i64 0, .int .i64 0, .bool false, .int .i64 0, .int .i64 0, .int .i64 0] 76 w13 fun k7 w14 =>
  St ⟨k7, 0, none⟩ (.int .u64 n21_0_0) w14 fun w15 =>
  St ⟨k7, 1, none⟩ (.int .u64 n21_0_1) w15 fun w16 =>
  St ⟨k7, 2, none⟩ (.int .i64 n21_0_2) w16 fun w17 =>
  St ⟨k7, 3, none⟩ (.int .i64 n21_0_3) w17 fun w18 =>
  St ⟨k7, 4, none⟩ (.int .i64 n21_0_4) w18 fun w19 =>
  St ⟨k7, 5, none⟩ (.int .i64 n21_0_5) w19 fun w20 =>
  St ⟨k7, 6, none⟩ (.bool b21_0_6) w20 fun w21 =>
  St ⟨k7, 7, none⟩ (.int .i64 n21_0_7) w21 fun w22 =>
  St ⟨k7, 8, none⟩ (.int .i64 n21_0_8) w22 fun w23 =>
  St ⟨k7, 9, none⟩ (.int .i64 n21_0_9) w23 fun w24 =>
  Calls Try.prog 38 #[.pointer p0] w24 fun e_2 w25 => ∃ n26_0_0 : Int, ∃ n26_0_1 : Int, ∃ n26_0_2 : Int, ∃ n26_0_3 : Int, ∃ n26_0_4 : Int, ∃ n26_0_5 : Int, ∃ b26_0_6 : Bool, ∃ n26_0_7 : Int, ∃ n26_0_8 : Int, ∃ n26_0_9 : Int, ∃ n26_0_10 : Int, ∃ n26_0_11 : Int, ∃ n26_0_12 : Int, ∃ n26_0_13 : Int, ∃ n26_0_14 : Int, ∃ n26_0_15 : Int, ∃ b26_0_16 : Bool, ∃ n26_0_17 : Int, ∃ n26_0_18 : Int, ∃ n26_0_19 : Int, ∃ b26_1_0 : Bool, ∃ b26_1_1 : Bool, e_2 = .returned (.tuple #[.agg #[.int .u64 n26_0_0, .int .u64 n26_0_1, .int .i64 n26_0_2, .int .i64 n26_0_3, .int .i64 n26_0_4, .int .i64 n26_0_5, .bool b26_0_6, .int .i64 n26_0_7, .int .i64 n26_0_8, .int .i64 n26_0_9, .int .u64 n26_0_10, .int .u64 n26_0_11, .int .i64 n26_0_12, .int .i64 n26_0_13, .int .i64 n26_0_14, .int .i64 n26_0_15, .bool b26_0_16, .int .i64 n26_0_17, .int .i64 n26_0_18, .int .i64 n26_0_19], .agg #[.bool b26_1_0, .bool b26_1_1]]) ∧
  Alloc #[.int .u64 0, .int .u64 0, .int .i64 0, .int .i64 0, .int .i64 0, .int .i64 0, .bool false, .int .i64 0, .int .i64 0, .int .i64 0, .int .u64 0, .int .u64 0, .int .i64 0, .int .i64 0, .int .i64 0, .int .i64 0, .bool false, .int .i64 0, .int .i64 0, .int .i64 0] 67 w25 fun k9 w26 =>
  Alloc #[.bool false, .bool false] 68 w26 fun k10 w27 =>
  St ⟨k9, 0, none⟩ (.int .u64 n26_0_0) w27 fun w28 =>
  St ⟨k9, 1, none⟩ (.int .u64 n26_0_1) w28 fun w29 =>
  St ⟨k9, 2, none⟩ (.int .i64 n26_0_2) w29 fun w30 =>
  St ⟨k9, 3, none⟩ (.int .i64 n26_0_3) w30 fun w31 =>
  St ⟨k9, 4, none⟩ (.int .i64 n26_0_4) w31 fun w32 =>
  St ⟨k9, 5, none⟩ (.int .i64 n26_0_5) w32 fun w33 =>
  St ⟨k9, 6, none⟩ (.bool b26_0_6) w33 fun w34 =>
  St ⟨k9, 7, none⟩ (.int .i64 n26_0_7) w34 fun w35 =>
  St ⟨k9, 8, none⟩ (.int .i64 n26_0_8) w35 fun w36 =>
  St ⟨k9, 9, none⟩ (.int .i64 n26_0_9) w36 fun w37 =>
  St ⟨k9, 10, none⟩ (.int .u64 n26_0_10) w37 fun w38 =>
  St ⟨k9, 11, none⟩ (.int .u64 n26_0_11) w38 fun w39 =>
  St ⟨k9, 12, none⟩ (.int .i64 n26_0_12) w39 fun w40 =>
  St ⟨k9, 13, none⟩ (.int .i64 n26_0_13) w40 fun w41 =>
  St ⟨k9, 14, none⟩ (.int .i64 n26_0_14) w41 fun w42 =>
  St ⟨k9, 15, none⟩ (.int .i64 n26_0_15) w42 fun w43 =>
  St ⟨k9, 16, none⟩ (.bool b26_0_16) w43 fun w44 =>
  St ⟨k9, 17, none⟩ (.int .i64 n26_0_17) w44 fun w45 =>
  St ⟨k9, 18, none⟩ (.int .i64 n26_0_18) w45 fun w46 =>
  St ⟨k9, 19, none⟩ (.int .i64 n26_0_19) w46 fun w47 =>
  St ⟨k10, 0, none⟩ (.bool b26_1_0) w47 fun w48 =>
  St ⟨k10, 1, none⟩ (.bool b26_1_1) w48 fun w49 =>
  LoopP (fun I => I [.int .i64 0] w49) fun K vs w50 => ∃ n11 : Int, vs = [.int .i64 n11] ∧
  ((decide (n11 < 2)) = true →
  Calls Try.prog 69 #[.pointer p1, .int .i64 n11] w50 fun e_3 w51 => ∃ n36_0_0 : Int, ∃ n36_0_1 : Int, ∃ n36_0_2 : Int, ∃ n36_0_3 : Int, ∃ n36_0_4 : Int, ∃ n36_0_5 : Int, ∃ b36_0_6 : Bool, ∃ n36_0_7 : Int, ∃ n36_0_8 : Int, ∃ n36_0_9 : Int, ∃ b36_1 : Bool, e_3 = .returned (.tuple #[.agg #[.int .u64 n36_0_0, .int .u64 n36_0_1, .int .i64 n36_0_2, .int .i64 n36_0_3, .int .i64 n36_0_4, .int .i64 n36_0_5, .bool b36_0_6, .int .i64 n36_0_7, .int .i64 n36_0_8, .int .i64 n36_0_9], .bool b36_1]) ∧
  Alloc #[.int .u64 0, .int .u64 0, .int .i64 0, .int .i64 0, .int .i64 0, .int .i64 0, .bool false, .int .i64 0, .int .i64 0, .int .i64 0] 76 w51 fun k12 w52 =>
  St ⟨k12, 0, none⟩ (.int .u64 n36_0_0) w52 fun w53 =>
  St ⟨k12, 1, none⟩ (.int .u64 n36_0_1) w53 fun w54 =>
  St ⟨k12, 2, none⟩ (.int .i64 n36_0_2) w54 fun w55 =>
  St ⟨k12, 3, none⟩ (.int .i64 n36_0_3) w55 fun w56 =>
  St ⟨k12, 4, none⟩ (.int .i64 n36_0_4) w56 fun w57 =>
  St ⟨k12, 5, none⟩ (.int .i64 n36_0_5) w57 fun w58 =>
  St ⟨k12, 6, none⟩ (.bool b36_0_6) w58 fun w59 =>
  St ⟨k12, 7, none⟩ (.int .i64 n36_0_7) w59 fun w60 =>
  St ⟨k12, 8, none⟩ (.int .i64 n36_0_8) w60 fun w61 =>
  St ⟨k12, 9, none⟩ (.int .i64 n36_0_9) w61 fun w62 =>
  ∃ D : World → Prop, D w62.drew ∧
  (0 : Int) ≤ n11 ∧ n11 < (2 : Int) ∧
  ∃ b41 : Bool, (∀ w, D w → w.cell? (Addr.add ⟨k10, 0, none⟩ (n11.toNat * 1)) = some (.bool b41)) ∧
  ((!(b41 == b36_1)) = true →
  R (.bool false) w62.drew) ∧
  ((!(b41 == b36_1)) = false →
  (0 : Int) ≤ n11 ∧ n11 < (2 : Int) ∧
  ∃ n47_0 : Int, ∃ n47_1 : Int, ∃ n47_2 : Int, ∃ n47_3 : Int, ∃ n47_4 : Int, ∃ n47_5 : Int, ∃ b47_6 : Bool, ∃ n47_7 : Int, ∃ n47_8 : Int, ∃ n47_9 : Int, (∀ w, D w → w.cell? (Addr.add ⟨k9, 0, none⟩ (n11.toNat * 10)) = some (.int .u64 n47_0) ∧ w.cell? (Addr.add (Addr.add ⟨k9, 0, none⟩ (n11.toNat * 10)) 1) = some (.int .u64 n47_1) ∧ w.cell? (Addr.add (Addr.add ⟨k9, 0, none⟩ (n11.toNat * 10)) 2) = some (.int .i64 n47_2) ∧ w.cell? (Addr.add (Addr.add ⟨k9, 0, none⟩ (n11.toNat * 10)) 3) = some (.int .i64 n47_3) ∧ w.cell? (Addr.add (Addr.add ⟨k9, 0, none⟩ (n11.toNat * 10)) 4) = some (.int .i64 n47_4) ∧ w.cell? (Addr.add (Addr.add ⟨k9, 0, none⟩ (n11.toNat * 10)) 5) = some (.int .i64 n47_5) ∧ w.cell? (Addr.add (Addr.add ⟨k9, 0, none⟩ (n11.toNat * 10)) 6) = some (.bool b47_6) ∧ w.cell? (Addr.add (Addr.add ⟨k9, 0, none⟩ (n11.toNat * 10)) 7) = some (.int .i64 n47_7) ∧ w.cell? (Addr.add (Addr.add ⟨k9, 0, none⟩ (n11.toNat * 10)) 8) = some (.int .i64 n47_8) ∧ w.cell? (Addr.add (Addr.add ⟨k9, 0, none⟩ (n11.toNat * 10)) 9) = some (.int .i64 n47_9)) ∧
  ∃ n48_0 : Int, ∃ n48_1 : Int, ∃ n48_2 : Int, ∃ n48_3 : Int, ∃ n48_4 : Int, ∃ n48_5 : Int, ∃ b48_6 : Bool, ∃ n48_7 : Int, ∃ n48_8 : Int, ∃ n48_9 : Int, (∀ w, D w → w.cell? ⟨k12, 0, none⟩ = some (.int .u64 n48_0) ∧ w.cell? ⟨k12, 1, none⟩ = some (.int .u64 n48_1) ∧ w.cell? ⟨k12, 2, none⟩ = some (.int .i64 n48_2) ∧ w.cell? ⟨k12, 3, none⟩ = some (.int .i64 n48_3) ∧ w.cell? ⟨k12, 4, none⟩ = some (.int .i64 n48_4) ∧ w.cell? ⟨k12, 5, none⟩ = some (.int .i64 n48_5) ∧ w.cell? ⟨k12, 6, none⟩ = some (.bool b48_6) ∧ w.cell? ⟨k12, 7, none⟩ = some (.int .i64 n48_7) ∧ w.cell? ⟨k12, 8, none⟩ = some (.int .i64 n48_8) ∧ w.cell? ⟨k12, 9, none⟩ = some (.int .i64 n48_9)) ∧
  ∃ b49 : Bool, (∀ w, D w → (do eqGuard .neq 76 (.tmp 47) (.tmp 48) (.agg #[.int .u64 n47_0, .int .u64 n47_1, .int .i64 n47_2, .int .i64 n47_3, .int .i64 n47_4, .int .i64 n47_5, .bool b47_6, .int .i64 n47_7, .int .i64 n47_8, .int .i64 n47_9]) (.agg #[.int .u64 n48_0, .int .u64 n48_1, .int .i64 n48_2, .int .i64 n48_3, .int .i64 n48_4, .int .i64 n48_5, .bool b48_6, .int .i64 n48_7, .int .i64 n48_8, .int .i64 n48_9]); binOp .neq 76 (.agg #[.int .u64 n47_0, .int .u64 n47_1, .int .i64 n47_2, .int .i64 n47_3, .int .i64 n47_4, .int .i64 n47_5, .bool b47_6, .int .i64 n47_7, .int .i64 n47_8, .int .i64 n47_9]) (.agg #[.int .u64 n48_0, .int .u64 n48_1, .int .i64 n48_2, .int .i64 n48_3, .int .i64 n48_4, .int .i64 n48_5, .bool b48_6, .int .i64 n48_7, .int .i64 n48_8, .int .i64 n48_9]) : Sem Value).run Try.prog w = .ok (.bool b49) w) ∧
  (b49 = true →
  R (.bool false) w62.drew) ∧
  (b49 = false →
  K [.int .i64 (IntKind.i64.wrap (n11 + 1))] w62.drew))) ∧
  ((decide (n11 < 2)) = false →
  ∃ n51_0 : Int, ∃ n51_1 : Int, ∃ n51_2 : Int, ∃ n51_3 : Int, ∃ n51_4 : Int, ∃ n51_5 : Int, ∃ b51_6 : Bool, ∃ n51_7 : Int, ∃ n51_8 : Int, ∃ n51_9 : Int, (w50.cell? ⟨k5, 0, none⟩ = some (.int .u64 n51_0) ∧ w50.cell? ⟨k5, 1, none⟩ = some (.int .u64 n51_1) ∧ w50.cell? ⟨k5, 2, none⟩ = some (.int .i64 n51_2) ∧ w50.cell? ⟨k5, 3, none⟩ = some (.int .i64 n51_3) ∧ w50.cell? ⟨k5, 4, none⟩ = some (.int .i64 n51_4) ∧ w50.cell? ⟨k5, 5, none⟩ = some (.int .i64 n51_5) ∧ w50.cell? ⟨k5, 6, none⟩ = some (.bool b51_6) ∧ w50.cell? ⟨k5, 7, none⟩ = some (.int .i64 n51_7) ∧ w50.cell? ⟨k5, 8, none⟩ = some (.int .i64 n51_8) ∧ w50.cell? ⟨k5, 9, none⟩ = some (.int .i64 n51_9)) ∧
  ∃ n52_0 : Int, ∃ n52_1 : Int, ∃ n52_2 : Int, ∃ n52_3 : Int, ∃ n52_4 : Int, ∃ n52_5 : Int, ∃ b52_6 : Bool, ∃ n52_7 : Int, ∃ n52_8 : Int, ∃ n52_9 : Int, (w50.cell? ⟨k7, 0, none⟩ = some (.int .u64 n52_0) ∧ w50.cell? ⟨k7, 1, none⟩ = some (.int .u64 n52_1) ∧ w50.cell? ⟨k7, 2, none⟩ = some (.int .i64 n52_2) ∧ w50.cell? ⟨k7, 3, none⟩ = some (.int .i64 n52_3) ∧ w50.cell? ⟨k7, 4, none⟩ = some (.int .i64 n52_4) ∧ w50.cell? ⟨k7, 5, none⟩ = some (.int .i64 n52_5) ∧ w50.cell? ⟨k7, 6, none⟩ = some (.bool b52_6) ∧ w50.cell? ⟨k7, 7, none⟩ = some (.int .i64 n52_7) ∧ w50.cell? ⟨k7, 8, none⟩ = some (.int .i64 n52_8) ∧ w50.cell? ⟨k7, 9, none⟩ = some (.int .i64 n52_9)) ∧
  ∃ b53 : Bool, ∃ w63, (do eqGuard .eql 76 (.tmp 51) (.tmp 52) (.agg #[.int .u64 n51_0, .int .u64 n51_1, .int .i64 n51_2, .int .i64 n51_3, .int .i64 n51_4, .int .i64 n51_5, .bool b51_6, .int .i64 n51_7, .int .i64 n51_8, .int .i64 n51_9]) (.agg #[.int .u64 n52_0, .int .u64 n52_1, .int .i64 n52_2, .int .i64 n52_3, .int .i64 n52_4, .int .i64 n52_5, .bool b52_6, .int .i64 n52_7, .int .i64 n52_8, .int .i64 n52_9]); binOp .eql 76 (.agg #[.int .u64 n51_0, .int .u64 n51_1, .int .i64 n51_2, .int .i64 n51_3, .int .i64 n51_4, .int .i64 n51_5, .bool b51_6, .int .i64 n51_7, .int .i64 n51_8, .int .i64 n51_9]) (.agg #[.int .u64 n52_0, .int .u64 n52_1, .int .i64 n52_2, .int .i64 n52_3, .int .i64 n52_4, .int .i64 n52_5, .bool b52_6, .int .i64 n52_7, .int .i64 n52_8, .int .i64 n52_9]) : Sem Value).run Try.prog w50 = .ok (.bool b53) w63 ∧
  (b53 = true →
  R (.bool (n16_1 == n21_1)) w63) ∧
  (b53 = false →
  R (.bool false) w63))
theorem revetmentlaw09_same_eq (p0 : Option Addr) (p1 : Option Addr) (w : World) (R : Value → World → Prop) : revetmentlaw09_same p0 p1 w R = fnP Try.prog Try.f43 (.s .o (.s .o (.s .o (.s .o (.s (.s .o (.b (.l [(11, .one (.int .i64))] .o))) .o))))) [.pointer p0, .pointer p1] w R := by kernel_rfl
theorem revetmentlaw09_same_calls {p0 : Option Addr} {p1 : Option Addr} {w : World} {R : Value → World → Prop} (h : revetmentlaw09_same p0 p1 w R) : Calls Try.prog 43 #[.pointer p0, .pointer p1] w fun e w1 => ∃ v, e = .returned v ∧ R v w1 := fnP_calls callable Try.func43 (revetmentlaw09_same_eq p0 p1 w R ▸ h)

/-- revetment/slots.Load$1 -/
def slots_Load_1 (k0 : Addr) (k1 : Addr) (w : World) (R : Value → World → Prop) : Prop :=
  (0 : Int) ≤ 1 ∧ 1 < (2 : Int) ∧
  ∃ b4 : Bool, w.cell? (k0.add 1) = some (.bool b4) ∧
  (b4 = true →
  (0 : Int) ≤ 0 ∧ 0 < (2 : Int) ∧
  ∃ b7 : Bool, w.cell? k0 = some (.bool b7) ∧
  ((!b7) = true →
  R (.bool true) w) ∧
  ((!b7) = false →
  (0 : Int) ≤ 1 ∧ 1 < (2 : Int) ∧
  ∃ n12 : Int, w.cell? (Addr.add (k1.add 10) 1) = some (.int .u64 n12) ∧
  (0 : Int) ≤ 0 ∧ 0 < (2 : Int) ∧
  ∃ n15 : Int, w.cell? (k1.add 1) = some (.int .u64 n15) ∧
  R (.bool (decide (n12 > n15))) w)) ∧
  (b4 = false →
  R (.bool false) w)
theorem slots_Load_1_eq (k0 : Addr) (k1 : Addr) (w : World) (R : Value → World → Prop) : slots_Load_1 k0 k1 w R = fnP Try.prog Try.f60 .o [.pointer (some k0), .pointer (some k1)] w R := by kernel_rfl
theorem slots_Load_1_calls {k0 : Addr} {k1 : Addr} {w : World} {R : Value → World → Prop} (h : slots_Load_1 k0 k1 w R) : Calls Try.prog 60 #[.pointer (some k0), .pointer (some k1)] w fun e w1 => ∃ v, e = .returned v ∧ R v w1 := fnP_calls callable Try.func60 (slots_Load_1_eq k0 k1 w R ▸ h)

/-- revetment/super.May -/
def super_May (n0_0 : Int) (n0_1 : Int) (n0_2 : Int) (n0_3 : Int) (n0_4 : Int) (n0_5 : Int) (b0_6 : Bool) (n0_7 : Int) (n0_8 : Int) (n0_9 : Int) (w : World) (R : Value → World → Prop) : Prop :=
  Alloc #[.int .u64 n0_0, .int .u64 n0_1, .int .i64 n0_2, .int .i64 n0_3, .int .i64 n0_4, .int .i64 n0_5, .bool b0_6, .int .i64 n0_7, .int .i64 n0_8, .int .i64 n0_9] 58 w fun k1 w1 =>
  Join (fun vs w2 => vs = [] ∧
  ∃ n63 : Int, w2.cell? ⟨k1, 7, none⟩ = some (.int .i64 n63) ∧
  ∃ n66 : Int, w2.cell? ⟨k1, 5, none⟩ = some (.int .i64 n66) ∧
  Calls Try.prog 72 #[.int .i64 n63, .int .i64 0, .int .i64 n66] w2 fun e w3 => ∃ b67 : Bool, e = .returned (.bool b67) ∧
  (b67 = true →
  ∃ n71 : Int, w3.cell? ⟨k1, 9, none⟩ = some (.int .i64 n71) ∧
  ∃ n74 : Int, w3.cell? ⟨k1, 5, none⟩ = some (.int .i64 n74) ∧
  Calls Try.prog 72 #[.int .i64 n71, .int .i64 0, .int .i64 n74] w3 fun e_1 w4 => ∃ b75 : Bool, e_1 = .returned (.bool b75) ∧
  R (.bool b75) w4) ∧
  (b67 = false →
  R (.bool false) w3)) fun J =>
  Join (fun vs_1 w5 => ∃ b4 : Bool, vs_1 = [.bool b4] ∧
  (b4 = true →
  R (.bool false) w5) ∧
  (b4 = false →
  Join (fun vs_2 w6 => ∃ b15 : Bool, vs_2 = [.bool b15] ∧
  (b15 = true →
  R (.bool false) w6) ∧
  (b15 = false →
  ∃ n40 : Int, w6.cell? ⟨k1, 2, none⟩ = some (.int .i64 n40) ∧
  ((n40 != 254) = true →
  ∃ n44 : Int, w6.cell? ⟨k1, 2, none⟩ = some (.int .i64 n44) ∧
  ((n44 != 255) = true →
  ∃ n50 : Int, w6.cell? ⟨k1, 2, none⟩ = some (.int .i64 n50) ∧
  ∃ n53 : Int, w6.cell? ⟨k1, 3, none⟩ = some (.int .i64 n53) ∧
  ∃ n55 : Int, w6.cell? ⟨k1, 8, none⟩ = some (.int .i64 n55) ∧
  ∃ n56 : Int, ∃ w7, (builtin .max #[3, 3] 3 #[false, false] #[.int .i64 n53, .int .i64 n55]).run Try.prog w6 = .ok (.value (.int .i64 n56)) w7 ∧
  Calls Try.prog 72 #[.int .i64 n50, .int .i64 0, .int .i64 (IntKind.i64.wrap (n56 - 1))] w7 fun e_2 w8 => ∃ b58 : Bool, e_2 = .returned (.bool b58) ∧
  ((!b58) = true →
  R (.bool false) w8) ∧
  ((!b58) = false →
  J [] w8)) ∧
  ((n44 != 255) = false →
  J [] w6)) ∧
  ((n40 != 254) = false →
  J [] w6))) fun J_2 =>
  ∃ n17 : Int, w5.cell? ⟨k1, 8, none⟩ = some (.int .i64 n17) ∧
  ((n17 != 0) = true →
  ∃ n22 : Int, w5.cell? ⟨k1, 8, none⟩ = some (.int .i64 n22) ∧
  ∃ n25 : Int, w5.cell? ⟨k1, 3, none⟩ = some (.int .i64 n25) ∧
  Calls Try.prog 72 #[.int .i64 n22, .int .i64 (IntKind.i64.wrap (n25 + 1)), .int .i64 10] w5 fun e_3 w9 => ∃ b27 : Bool, e_3 = .returned (.bool b27) ∧
  ((!b27) = true →
  J_2 [.bool true] w9) ∧
  ((!b27) = false →
  ∃ n31 : Int, w9.cell? ⟨k1, 8, none⟩ = some (.int .i64 n31) ∧
  ((n31 == 0) = true →
  ∃ n35 : Int, w9.cell? ⟨k1, 9, none⟩ = some (.int .i64 n35) ∧
  J_2 [.bool (n35 != 0)] w9) ∧
  ((n31 == 0) = false →
  J_2 [.bool false] w9))) ∧
  ((n17 != 0) = false →
  ∃ n31_1 : Int, w5.cell? ⟨k1, 8, none⟩ = some (.int .i64 n31_1) ∧
  ((n31_1 == 0) = true →
  ∃ n35_1 : Int, w5.cell? ⟨k1, 9, none⟩ = some (.int .i64 n35_1) ∧
  J_2 [.bool (n35_1 != 0)] w5) ∧
  ((n31_1 == 0) = false →
  J_2 [.bool false] w5)))) fun J_1 =>
  ∃ n5_0 : Int, ∃ n5_1 : Int, ∃ n5_2 : Int, ∃ n5_3 : Int, ∃ n5_4 : Int, ∃ n5_5 : Int, ∃ b5_6 : Bool, ∃ n5_7 : Int, ∃ n5_8 : Int, ∃ n5_9 : Int, (w1.cell? ⟨k1, 0, none⟩ = some (.int .u64 n5_0) ∧ w1.cell? ⟨k1, 1, none⟩ = some (.int .u64 n5_1) ∧ w1.cell? ⟨k1, 2, none⟩ = some (.int .i64 n5_2) ∧ w1.cell? ⟨k1, 3, none⟩ = some (.int .i64 n5_3) ∧ w1.cell? ⟨k1, 4, none⟩ = some (.int .i64 n5_4) ∧ w1.cell? ⟨k1, 5, none⟩ = some (.int .i64 n5_5) ∧ w1.cell? ⟨k1, 6, none⟩ = some (.bool b5_6) ∧ w1.cell? ⟨k1, 7, none⟩ = some (.int .i64 n5_7) ∧ w1.cell? ⟨k1, 8, none⟩ = some (.int .i64 n5_8) ∧ w1.cell? ⟨k1, 9, none⟩ = some (.int .i64 n5_9)) ∧
  ∃ b7 : Bool, ∃ w10, (do eqGuard .eql 58 (.tmp 5) (.tmp 6) (.agg #[.int .u64 n5_0, .int .u64 n5_1, .int .i64 n5_2, .int .i64 n5_3, .int .i64 n5_4, .int .i64 n5_5, .bool b5_6, .int .i64 n5_7, .int .i64 n5_8, .int .i64 n5_9]) (.agg #[.int .u64 0, .int .u64 0, .int .i64 0, .int .i64 0, .int .i64 0, .int .i64 0, .bool false, .int .i64 0, .int .i64 0, .int .i64 0]); binOp .eql 58 (.agg #[.int .u64 n5_0, .int .u64 n5_1, .int .i64 n5_2, .int .i64 n5_3, .int .i64 n5_4, .int .i64 n5_5, .bool b5_6, .int .i64 n5_7, .int .i64 n5_8, .int .i64 n5_9]) (.agg #[.int .u64 0, .int .u64 0, .int .i64 0, .int .i64 0, .int .i64 0, .int .i64 0, .bool false, .int .i64 0, .int .i64 0, .int .i64 0]) : Sem Value).run Try.prog w1 = .ok (.bool b7) w10 ∧
  (b7 = true →
  J_1 [.bool true] w10) ∧
  (b7 = false →
  ∃ n9 : Int, w10.cell? ⟨k1, 0, none⟩ = some (.int .u64 n9) ∧
  ((n9 == 0) = true →
  J_1 [.bool true] w10) ∧
  ((n9 == 0) = false →
  ∃ n12_0 : Int, ∃ n12_1 : Int, ∃ n12_2 : Int, (w10.cell? ⟨k1, 3, none⟩ = some (.int .i64 n12_0) ∧ w10.cell? ⟨k1, 4, none⟩ = some (.int .i64 n12_1) ∧ w10.cell? ⟨k1, 5, none⟩ = some (.int .i64 n12_2)) ∧
  Calls Try.prog 73 #[.agg #[.int .i64 n12_0, .int .i64 n12_1, .int .i64 n12_2]] w10 fun e_4 w11 => ∃ n13 : Int, e_4 = .returned (.int .i64 n13) ∧
  J_1 [.bool (n13 != 0)] w11))
theorem super_May_eq (n0_0 : Int) (n0_1 : Int) (n0_2 : Int) (n0_3 : Int) (n0_4 : Int) (n0_5 : Int) (b0_6 : Bool) (n0_7 : Int) (n0_8 : Int) (n0_9 : Int) (w : World) (R : Value → World → Prop) : super_May n0_0 n0_1 n0_2 n0_3 n0_4 n0_5 b0_6 n0_7 n0_8 n0_9 w R = fnP Try.prog Try.f61 (.s .o (.s .o (.j [] (.b (.j [(4, .one .bool)] .o (.c .o (.j [(15, .one .bool)] .o .o)))) .o))) [.agg #[.int .u64 n0_0, .int .u64 n0_1, .int .i64 n0_2, .int .i64 n0_3, .int .i64 n0_4, .int .i64 n0_5, .bool b0_6, .int .i64 n0_7, .int .i64 n0_8, .int .i64 n0_9]] w R := by kernel_rfl
theorem super_May_calls {n0_0 : Int} {n0_1 : Int} {n0_2 : Int} {n0_3 : Int} {n0_4 : Int} {n0_5 : Int} {b0_6 : Bool} {n0_7 : Int} {n0_8 : Int} {n0_9 : Int} {w : World} {R : Value → World → Prop} (h : super_May n0_0 n0_1 n0_2 n0_3 n0_4 n0_5 b0_6 n0_7 n0_8 n0_9 w R) : Calls Try.prog 61 #[.agg #[.int .u64 n0_0, .int .u64 n0_1, .int .i64 n0_2, .int .i64 n0_3, .int .i64 n0_4, .int .i64 n0_5, .bool b0_6, .int .i64 n0_7, .int .i64 n0_8, .int .i64 n0_9]] w fun e w1 => ∃ v, e = .returned v ∧ R v w1 := fnP_calls callable Try.func61 (super_May_eq n0_0 n0_1 n0_2 n0_3 n0_4 n0_5 b0_6 n0_7 n0_8 n0_9 w R ▸ h)

/-- (*revetment/super.Super).parts -/
def super_Super_parts (p0 : Option Addr) (p1 : Option Addr) (w : World) (R : Value → World → Prop) : Prop :=
  ∃ D : World → Prop, D w.drew ∧
  ∃ a6 : Addr, p0 = some a6 ∧
  ∃ a10 : Addr, p0 = some a10 ∧
  ∃ a15 : Addr, p0 = some a15 ∧
  ∃ a20 : Addr, p0 = some a20 ∧
  ∃ a27 : Addr, p0 = some a27 ∧
  ∃ a31 : Addr, p0 = some a31 ∧
  ∃ a35 : Addr, p0 = some a35 ∧
  Alloc #[.pointer (some (a6.add 2)), .int .i64 1, .pointer (some (a10.add 3)), .int .i64 1, .pointer (some (Addr.add (a15.add 3) 1)), .int .i64 1, .pointer (some (Addr.add (a20.add 3) 2)), .int .i64 2, .pointer p1, .int .i64 1, .pointer (some (a27.add 7)), .int .i64 2, .pointer (some (a31.add 8)), .int .i64 1, .pointer (some (a35.add 9)), .int .i64 2] 99 w.drew fun k38 w1 =>
  D w1 ∧
  R (.slice (some ⟨k38, 0, none⟩) 8 8) w1
theorem super_Super_parts_eq (p0 : Option Addr) (p1 : Option Addr) (w : World) (R : Value → World → Prop) : super_Super_parts p0 p1 w R = fnP Try.prog Try.f62 .o [.pointer p0, .pointer p1] w R := by kernel_rfl
theorem super_Super_parts_calls {p0 : Option Addr} {p1 : Option Addr} {w : World} {R : Value → World → Prop} (h : super_Super_parts p0 p1 w R) : Calls Try.prog 62 #[.pointer p0, .pointer p1] w fun e w1 => ∃ v, e = .returned v ∧ R v w1 := fnP_calls callable Try.func62 (super_Super_parts_eq p0 p1 w R ▸ h)

/-- revetment/pack.Encode -/
def pack_Encode (p0 : Option Addr) (l0 c0 : Nat) (p1 : Option Addr) (l1 c1 : Nat) (w : World) (R : Value → World → Prop) : Prop :=
  Alloc #[.slice p0 l0 c0] 94 w fun k2 w1 =>
  Calls Try.prog 74 #[.slice p1 l1 c1] w1 fun e w2 => ∃ n15_0 : Int, ∃ n15_1 : Int, e = .returned (.tuple #[.int .i64 n15_0, .int .i64 n15_1]) ∧
  ((n15_1 != 0) = true →
  R (.tuple #[.string (ByteArray.mk #[]), .int .i64 n15_1]) w2) ∧
  ((n15_1 != 0) = false →
  ∃ (p23 : Option Addr) (l23 c23 : Nat), w2.cell? ⟨k2, 0, none⟩ = some (.slice p23 l23 c23) ∧
  (((l23 : Int) != (l1 : Int)) = true →
  R (.tuple #[.string (ByteArray.mk #[]), .int .i64 1]) w2) ∧
  (((l23 : Int) != (l1 : Int)) = false →
  LoopP (fun I => I [.string (ByteArray.mk #[]), .int .i64 0, .int .i64 0] w2) fun K vs w3 => ∃ s4 : ByteArray, ∃ n5 : Int, ∃ n30 : Int, vs = [.string s4, .int .i64 n5, .int .i64 n30] ∧
  ((decide (n30 < (l1 : Int))) = true →
  ∃ a33 : Addr, p1 = some a33 ∧ (0 : Int) ≤ n30 ∧ n30 < (l1 : Int) ∧
  ∃ n34 : Int, w3.cell? (Addr.add a33 (n30.toNat * 1)) = some (.int .i64 n34) ∧
  ∃ (p35 : Option Addr) (l35 c35 : Nat), w3.cell? ⟨k2, 0, none⟩ = some (.slice p35 l35 c35) ∧
  ∃ a37 : Addr, p35 = some a37 ∧ (0 : Int) ≤ n30 ∧ n30 < (l35 : Int) ∧
  ∃ n38 : Int, w3.cell? (Addr.add a37 (n30.toNat * 1)) = some (.int .u64 n38) ∧
  Calls Try.prog 75 #[.int .u64 n38, .int .i64 n34] w3 fun e_1 w4 => ∃ b40 : Bool, e_1 = .returned (.bool b40) ∧
  ((!b40) = true →
  R (.tuple #[.string (ByteArray.mk #[]), .int .i64 30]) w4) ∧
  ((!b40) = false →
  K [.string s4, .int .i64 n5, .int .i64 (IntKind.i64.wrap (n30 + 1))] w4)) ∧
  ((decide (n30 < (l1 : Int))) = false →
  ∃ (p44 : Option Addr) (l44 c44 : Nat), ∃ w5, (Instr.makeSlice 30 (.int .i64 0) (.int .i64 n15_0)).run Try.prog w3 = .ok (.slice p44 l44 c44) w5 ∧
  Alloc #[.slice none 0 0] 30 w5 fun k10 w6 =>
  St ⟨k10, 0, none⟩ (.slice p44 l44 c44) w6 fun w7 =>
  Calls Try.prog 76 #[.slice p1 l1 c1] w7 fun e_2 w8 => ∃ v46 : Value, e_2 = .returned v46 ∧
  RangeP Try.prog v46 (fun ob l args W Φ => ∃ n47 : Int, ∃ n48 : Int, args = [.int .i64 n47, .int .i64 n48] ∧
  RoundP ob l Φ (fun K_1 X R w9 =>
  ∃ D : World → Prop, D w9.drew ∧
  ∃ (p49 : Option Addr) (l49 c49 : Nat), (∀ w, D w → w.cell? ⟨k10, 0, none⟩ = some (.slice p49 l49 c49)) ∧
  ∃ (p50 : Option Addr) (l50 c50 : Nat), (∀ w, D w → w.cell? ⟨k2, 0, none⟩ = some (.slice p50 l50 c50)) ∧
  ∃ a52 : Addr, p50 = some a52 ∧ (0 : Int) ≤ n47 ∧ n47 < (l50 : Int) ∧
  ∃ n53 : Int, (∀ w, D w → w.cell? (Addr.add a52 (n47.toNat * 1)) = some (.int .u64 n53)) ∧
  (0 : Int) ≤ n48 ∧
  Alloc #[.int .u8 (IntKind.u8.wrap (Int.fdiv n53 (2 ^ (min n48.toNat 64))))] 5 w9.drew fun k57 w10 =>
  D w10 ∧
  ∃ (p58 : Option Addr) (l58 c58 : Nat), ∃ w11, (builtin .append #[30, 30] 30 #[false, false] #[.slice p49 l49 c49, .slice (some ⟨k57, 0, none⟩) 1 1]).run Try.prog w10 = .ok (.value (.slice p58 l58 c58)) w11 ∧
  D w11 ∧
  St ⟨k10, 0, none⟩ (.slice p58 l58 c58) w11 fun w12 =>
  K_1 w12) W) []
  (fun d w13 =>
  ∃ (p59 : Option Addr) (l59 c59 : Nat), w13.cell? ⟨k10, 0, none⟩ = some (.slice p59 l59 c59) ∧
  ∃ s60 : ByteArray, ∃ w14, (convert 30 9 (.slice p59 l59 c59)).run Try.prog w13 = .ok (.string s60) w14 ∧
  w14.heap[d]? = some (.deferred (some [])) ∧
  R (.tuple #[.string s60, .int .i64 0]) (w14.putObj d (.deferred none)))
  (fun d_1 w15 =>
  w15.heap[d_1]? = some (.deferred (some [])) ∧
  R (.tuple #[.string s4, .int .i64 n5]) (w15.putObj d_1 (.deferred none))) w8)))
theorem pack_Encode_eq (p0 : Option Addr) (l0 c0 : Nat) (p1 : Option Addr) (l1 c1 : Nat) (w : World) (R : Value → World → Prop) : pack_Encode p0 l0 c0 p1 l1 c1 w R = fnP Try.prog Try.f63 (.s .o (.s .o (.s .o (.s (.s .o (.b (.l [(4, .one .str), (5, .one (.int .i64)), (30, .one (.int .i64))] .o))) (.s .o (.s (.s .o (.b (.rf [(47, .one (.int .i64)), (48, .one (.int .i64))] .o))) .o)))))) [.slice p0 l0 c0, .slice p1 l1 c1] w R := by kernel_rfl
theorem pack_Encode_calls {p0 : Option Addr} {l0 c0 : Nat} {p1 : Option Addr} {l1 c1 : Nat} {w : World} {R : Value → World → Prop} (h : pack_Encode p0 l0 c0 p1 l1 c1 w R) : Calls Try.prog 63 #[.slice p0 l0 c0, .slice p1 l1 c1] w fun e w1 => ∃ v, e = .returned v ∧ R v w1 := fnP_calls callable Try.func63 (pack_Encode_eq p0 l0 c0 p1 l1 c1 w R ▸ h)

/-- revetment/super.widths -/
def super_widths (w : World) (R : Value → World → Prop) : Prop :=
  Alloc #[.int .i64 4, .int .i64 8, .int .i64 8] 3 w fun k4 w1 =>
  Alloc #[.int .u64 0, .int .u64 0, .int .i64 0, .int .i64 0, .int .i64 0, .int .i64 0, .bool false, .int .i64 0, .int .i64 0, .int .i64 0] 58 w1 fun k5 w2 =>
  Calls Try.prog 62 #[.pointer (some ⟨k5, 0, none⟩), .pointer none] w2 fun e w3 => ∃ (p6 : Option Addr) (l6 c6 : Nat), e = .returned (.slice p6 l6 c6) ∧
  LoopP (fun I => I [.slice (some ⟨k4, 0, none⟩) 3 3, .int .i64 0] w3) fun K vs w4 => ∃ (p1 : Option Addr) (l1 c1 : Nat), ∃ n8 : Int, vs = [.slice p1 l1 c1, .int .i64 n8] ∧
  ((decide (n8 < (l6 : Int))) = true →
  ∃ a10 : Addr, p6 = some a10 ∧ (0 : Int) ≤ n8 ∧ n8 < (l6 : Int) ∧
  ∃ p11_0 : Option Addr, ∃ n11_1 : Int, (w4.cell? (Addr.add a10 (n8.toNat * 2)) = some (.pointer p11_0) ∧ w4.cell? (Addr.add (Addr.add a10 (n8.toNat * 2)) 1) = some (.int .i64 n11_1)) ∧
  Alloc #[.pointer none, .int .i64 0] 99 w4 fun k3 w5 =>
  St ⟨k3, 0, none⟩ (.pointer p11_0) w5 fun w6 =>
  St ⟨k3, 1, none⟩ (.int .i64 n11_1) w6 fun w7 =>
  ∃ n14 : Int, w7.cell? ⟨k3, 1, none⟩ = some (.int .i64 n14) ∧
  Alloc #[.int .i64 n14] 3 w7 fun k15 w8 =>
  ∃ (p16 : Option Addr) (l16 c16 : Nat), ∃ w9, (builtin .append #[101, 101] 101 #[false, false] #[.slice p1 l1 c1, .slice (some ⟨k15, 0, none⟩) 1 1]).run Try.prog w8 = .ok (.value (.slice p16 l16 c16)) w9 ∧
  K [.slice p16 l16 c16, .int .i64 (IntKind.i64.wrap (n8 + 1))] w9) ∧
  ((decide (n8 < (l6 : Int))) = false →
  R (.slice p1 l1 c1) w4)
theorem super_widths_eq (w : World) (R : Value → World → Prop) : super_widths w R = fnP Try.prog Try.f64 (.s .o (.s .o (.s (.s .o (.b (.l [(1, .one .slice), (8, .one (.int .i64))] .o))) .o))) [] w R := by kernel_rfl
theorem super_widths_calls {w : World} {R : Value → World → Prop} (h : super_widths w R) : Calls Try.prog 64 #[] w fun e w1 => ∃ v, e = .returned v ∧ R v w1 := fnP_calls callable Try.func64 (super_widths_eq w R ▸ h)

/-- revetment/crc.Seal -/
def crc_Seal (s0 : ByteArray) (n1 : Int) (w : World) (R : Value → World → Prop) : Prop :=
  ((decide (n1 < 4)) = true →
  R (.tuple #[.string (ByteArray.mk #[]), .bool false]) w) ∧
  ((decide (n1 < 4)) = false →
  ((decide (n1 > 4096)) = true →
  R (.tuple #[.string (ByteArray.mk #[]), .bool false]) w) ∧
  ((decide (n1 > 4096)) = false →
  ((decide ((s0.size : Int) > (IntKind.i64.wrap (n1 - 4)))) = true →
  R (.tuple #[.string (ByteArray.mk #[]), .bool false]) w) ∧
  ((decide ((s0.size : Int) > (IntKind.i64.wrap (n1 - 4)))) = false →
  ∃ (p22 : Option Addr) (l22 c22 : Nat), ∃ w1, (Instr.makeSlice 30 (.int .i64 (IntKind.i64.wrap (n1 - 4))) (.int .i64 (IntKind.i64.wrap (n1 - 4)))).run Try.prog w = .ok (.slice p22 l22 c22) w1 ∧
  ∃ n25 : Int, ∃ w2, (builtin .copy #[30, 9] 3 #[false, false] #[.slice p22 l22 c22, .string s0]).run Try.prog w1 = .ok (.value (.int .i64 n25)) w2 ∧
  ∃ s28 : ByteArray, ∃ w3, (convert 30 9 (.slice p22 l22 c22)).run Try.prog w2 = .ok (.string s28) w3 ∧
  Calls Try.prog 78 #[.string s28] w3 fun e w4 => ∃ n29 : Int, e = .returned (.int .u32 n29) ∧
  Calls Try.prog 77 #[.int .u32 n29] w4 fun e_1 w5 => ∃ (p30 : Option Addr) (l30 c30 : Nat), e_1 = .returned (.slice p30 l30 c30) ∧
  ∃ (p31 : Option Addr) (l31 c31 : Nat), ∃ w6, (builtin .append #[30, 30] 30 #[false, false] #[.slice p22 l22 c22, .slice p30 l30 c30]).run Try.prog w5 = .ok (.value (.slice p31 l31 c31)) w6 ∧
  ∃ s32 : ByteArray, ∃ w7, (convert 30 9 (.slice p31 l31 c31)).run Try.prog w6 = .ok (.string s32) w7 ∧
  R (.tuple #[.string s32, .bool true]) w7)))
theorem crc_Seal_eq (s0 : ByteArray) (n1 : Int) (w : World) (R : Value → World → Prop) : crc_Seal s0 n1 w R = fnP Try.prog Try.f65 .o [.string s0, .int .i64 n1] w R := by kernel_rfl
theorem crc_Seal_calls {s0 : ByteArray} {n1 : Int} {w : World} {R : Value → World → Prop} (h : crc_Seal s0 n1 w R) : Calls Try.prog 65 #[.string s0, .int .i64 n1] w fun e w1 => ∃ v, e = .returned v ∧ R v w1 := fnP_calls callable Try.func65 (crc_Seal_eq s0 n1 w R ▸ h)

/-- revetment/super.Decode -/
def super_Decode (s0 : ByteArray) (w : World) (R : Value → World → Prop) : Prop :=
  Alloc #[.int .u64 0, .int .u64 0, .int .i64 0, .int .i64 0, .int .i64 0, .int .i64 0, .bool false, .int .i64 0, .int .i64 0, .int .i64 0] 58 w fun k2 w1 =>
  (((s0.size : Int) != 64) = true →
  St ⟨k2, 0, none⟩ (.int .u64 0) w1 fun w2 =>
  St ⟨k2, 1, none⟩ (.int .u64 0) w2 fun w3 =>
  St ⟨k2, 2, none⟩ (.int .i64 0) w3 fun w4 =>
  St ⟨k2, 3, none⟩ (.int .i64 0) w4 fun w5 =>
  St ⟨k2, 4, none⟩ (.int .i64 0) w5 fun w6 =>
  St ⟨k2, 5, none⟩ (.int .i64 0) w6 fun w7 =>
  St ⟨k2, 6, none⟩ (.bool false) w7 fun w8 =>
  St ⟨k2, 7, none⟩ (.int .i64 0) w8 fun w9 =>
  St ⟨k2, 8, none⟩ (.int .i64 0) w9 fun w10 =>
  St ⟨k2, 9, none⟩ (.int .i64 0) w10 fun w11 =>
  ∃ nr2_0 : Int, ∃ nr2_1 : Int, ∃ nr2_2 : Int, ∃ nr2_3 : Int, ∃ nr2_4 : Int, ∃ nr2_5 : Int, ∃ br2_6 : Bool, ∃ nr2_7 : Int, ∃ nr2_8 : Int, ∃ nr2_9 : Int, (w11.cell? ⟨k2, 0, none⟩ = some (.int .u64 nr2_0) ∧ w11.cell? ⟨k2, 1, none⟩ = some (.int .u64 nr2_1) ∧ w11.cell? ⟨k2, 2, none⟩ = some (.int .i64 nr2_2) ∧ w11.cell? ⟨k2, 3, none⟩ = some (.int .i64 nr2_3) ∧ w11.cell? ⟨k2, 4, none⟩ = some (.int .i64 nr2_4) ∧ w11.cell? ⟨k2, 5, none⟩ = some (.int .i64 nr2_5) ∧ w11.cell? ⟨k2, 6, none⟩ = some (.bool br2_6) ∧ w11.cell? ⟨k2, 7, none⟩ = some (.int .i64 nr2_7) ∧ w11.cell? ⟨k2, 8, none⟩ = some (.int .i64 nr2_8) ∧ w11.cell? ⟨k2, 9, none⟩ = some (.int .i64 nr2_9)) ∧
  R (.tuple #[.agg #[.int .u64 nr2_0, .int .u64 nr2_1, .int .i64 nr2_2, .int .i64 nr2_3, .int .i64 nr2_4, .int .i64 nr2_5, .bool br2_6, .int .i64 nr2_7, .int .i64 nr2_8, .int .i64 nr2_9], .int .i64 31]) w11) ∧
  (((s0.size : Int) != 64) = false →
  Calls Try.prog 79 #[.string s0] w1 fun e w12 => ∃ s23_0 : ByteArray, ∃ b23_1 : Bool, e = .returned (.tuple #[.string s23_0, .bool b23_1]) ∧
  ((!b23_1) = true →
  St ⟨k2, 0, none⟩ (.int .u64 0) w12 fun w13 =>
  St ⟨k2, 1, none⟩ (.int .u64 0) w13 fun w14 =>
  St ⟨k2, 2, none⟩ (.int .i64 0) w14 fun w15 =>
  St ⟨k2, 3, none⟩ (.int .i64 0) w15 fun w16 =>
  St ⟨k2, 4, none⟩ (.int .i64 0) w16 fun w17 =>
  St ⟨k2, 5, none⟩ (.int .i64 0) w17 fun w18 =>
  St ⟨k2, 6, none⟩ (.bool false) w18 fun w19 =>
  St ⟨k2, 7, none⟩ (.int .i64 0) w19 fun w20 =>
  St ⟨k2, 8, none⟩ (.int .i64 0) w20 fun w21 =>
  St ⟨k2, 9, none⟩ (.int .i64 0) w21 fun w22 =>
  ∃ nr2_0_1 : Int, ∃ nr2_1_1 : Int, ∃ nr2_2_1 : Int, ∃ nr2_3_1 : Int, ∃ nr2_4_1 : Int, ∃ nr2_5_1 : Int, ∃ br2_6_1 : Bool, ∃ nr2_7_1 : Int, ∃ nr2_8_1 : Int, ∃ nr2_9_1 : Int, (w22.cell? ⟨k2, 0, none⟩ = some (.int .u64 nr2_0_1) ∧ w22.cell? ⟨k2, 1, none⟩ = some (.int .u64 nr2_1_1) ∧ w22.cell? ⟨k2, 2, none⟩ = some (.int .i64 nr2_2_1) ∧ w22.cell? ⟨k2, 3, none⟩ = some (.int .i64 nr2_3_1) ∧ w22.cell? ⟨k2, 4, none⟩ = some (.int .i64 nr2_4_1) ∧ w22.cell? ⟨k2, 5, none⟩ = some (.int .i64 nr2_5_1) ∧ w22.cell? ⟨k2, 6, none⟩ = some (.bool br2_6_1) ∧ w22.cell? ⟨k2, 7, none⟩ = some (.int .i64 nr2_7_1) ∧ w22.cell? ⟨k2, 8, none⟩ = some (.int .i64 nr2_8_1) ∧ w22.cell? ⟨k2, 9, none⟩ = some (.int .i64 nr2_9_1)) ∧
  R (.tuple #[.agg #[.int .u64 nr2_0_1, .int .u64 nr2_1_1, .int .i64 nr2_2_1, .int .i64 nr2_3_1, .int .i64 nr2_4_1, .int .i64 nr2_5_1, .bool br2_6_1, .int .i64 nr2_7_1, .int .i64 nr2_8_1, .int .i64 nr2_9_1], .int .i64 80]) w22) ∧
  ((!b23_1) = false →
  Calls Try.prog 64 #[] w12 fun e_1 w23 => ∃ (p29 : Option Addr) (l29 c29 : Nat), e_1 = .returned (.slice p29 l29 c29) ∧
  Calls Try.prog 74 #[.slice p29 l29 c29] w23 fun e_2 w24 => ∃ n32_0 : Int, ∃ n32_1 : Int, e_2 = .returned (.tuple #[.int .i64 n32_0, .int .i64 n32_1]) ∧
  ∃ s38 : ByteArray, ∃ w25, (Instr.sliceAt 9 (.string s23_0) none (some (.int .i64 n32_0)) none).run Try.prog w24 = .ok (.string s38) w25 ∧
  Calls Try.prog 80 #[.string s38, .slice p29 l29 c29] w25 fun e_3 w26 => ∃ (p40_0 : Option Addr) (l40_0 c40_0 : Nat), ∃ n40_1 : Int, e_3 = .returned (.tuple #[.slice p40_0 l40_0 c40_0, .int .i64 n40_1]) ∧
  ((n40_1 != 0) = true →
  St ⟨k2, 0, none⟩ (.int .u64 0) w26 fun w27 =>
  St ⟨k2, 1, none⟩ (.int .u64 0) w27 fun w28 =>
  St ⟨k2, 2, none⟩ (.int .i64 0) w28 fun w29 =>
  St ⟨k2, 3, none⟩ (.int .i64 0) w29 fun w30 =>
  St ⟨k2, 4, none⟩ (.int .i64 0) w30 fun w31 =>
  St ⟨k2, 5, none⟩ (.int .i64 0) w31 fun w32 =>
  St ⟨k2, 6, none⟩ (.bool false) w32 fun w33 =>
  St ⟨k2, 7, none⟩ (.int .i64 0) w33 fun w34 =>
  St ⟨k2, 8, none⟩ (.int .i64 0) w34 fun w35 =>
  St ⟨k2, 9, none⟩ (.int .i64 0) w35 fun w36 =>
  ∃ nr2_0_2 : Int, ∃ nr2_1_2 : Int, ∃ nr2_2_2 : Int, ∃ nr2_3_2 : Int, ∃ nr2_4_2 : Int, ∃ nr2_5_2 : Int, ∃ br2_6_2 : Bool, ∃ nr2_7_2 : Int, ∃ nr2_8_2 : Int, ∃ nr2_9_2 : Int, (w36.cell? ⟨k2, 0, none⟩ = some (.int .u64 nr2_0_2) ∧ w36.cell? ⟨k2, 1, none⟩ = some (.int .u64 nr2_1_2) ∧ w36.cell? ⟨k2, 2, none⟩ = some (.int .i64 nr2_2_2) ∧ w36.cell? ⟨k2, 3, none⟩ = some (.int .i64 nr2_3_2) ∧ w36.cell? ⟨k2, 4, none⟩ = some (.int .i64 nr2_4_2) ∧ w36.cell? ⟨k2, 5, none⟩ = some (.int .i64 nr2_5_2) ∧ w36.cell? ⟨k2, 6, none⟩ = some (.bool br2_6_2) ∧ w36.cell? ⟨k2, 7, none⟩ = some (.int .i64 nr2_7_2) ∧ w36.cell? ⟨k2, 8, none⟩ = some (.int .i64 nr2_8_2) ∧ w36.cell? ⟨k2, 9, none⟩ = some (.int .i64 nr2_9_2)) ∧
  R (.tuple #[.agg #[.int .u64 nr2_0_2, .int .u64 nr2_1_2, .int .i64 nr2_2_2, .int .i64 nr2_3_2, .int .i64 nr2_4_2, .int .i64 nr2_5_2, .bool br2_6_2, .int .i64 nr2_7_2, .int .i64 nr2_8_2, .int .i64 nr2_9_2], .int .i64 n40_1]) w36) ∧
  ((n40_1 != 0) = false →
  ∃ a50 : Addr, p40_0 = some a50 ∧ (0 : Int) ≤ 0 ∧ 0 < (l40_0 : Int) ∧
  ∃ n51 : Int, w26.cell? a50 = some (.int .u64 n51) ∧
  ((n51 != 827610706) = true →
  St ⟨k2, 0, none⟩ (.int .u64 0) w26 fun w37 =>
  St ⟨k2, 1, none⟩ (.int .u64 0) w37 fun w38 =>
  St ⟨k2, 2, none⟩ (.int .i64 0) w38 fun w39 =>
  St ⟨k2, 3, none⟩ (.int .i64 0) w39 fun w40 =>
  St ⟨k2, 4, none⟩ (.int .i64 0) w40 fun w41 =>
  St ⟨k2, 5, none⟩ (.int .i64 0) w41 fun w42 =>
  St ⟨k2, 6, none⟩ (.bool false) w42 fun w43 =>
  St ⟨k2, 7, none⟩ (.int .i64 0) w43 fun w44 =>
  St ⟨k2, 8, none⟩ (.int .i64 0) w44 fun w45 =>
  St ⟨k2, 9, none⟩ (.int .i64 0) w45 fun w46 =>
  ∃ nr2_0_3 : Int, ∃ nr2_1_3 : Int, ∃ nr2_2_3 : Int, ∃ nr2_3_3 : Int, ∃ nr2_4_3 : Int, ∃ nr2_5_3 : Int, ∃ br2_6_3 : Bool, ∃ nr2_7_3 : Int, ∃ nr2_8_3 : Int, ∃ nr2_9_3 : Int, (w46.cell? ⟨k2, 0, none⟩ = some (.int .u64 nr2_0_3) ∧ w46.cell? ⟨k2, 1, none⟩ = some (.int .u64 nr2_1_3) ∧ w46.cell? ⟨k2, 2, none⟩ = some (.int .i64 nr2_2_3) ∧ w46.cell? ⟨k2, 3, none⟩ = some (.int .i64 nr2_3_3) ∧ w46.cell? ⟨k2, 4, none⟩ = some (.int .i64 nr2_4_3) ∧ w46.cell? ⟨k2, 5, none⟩ = some (.int .i64 nr2_5_3) ∧ w46.cell? ⟨k2, 6, none⟩ = some (.bool br2_6_3) ∧ w46.cell? ⟨k2, 7, none⟩ = some (.int .i64 nr2_7_3) ∧ w46.cell? ⟨k2, 8, none⟩ = some (.int .i64 nr2_8_3) ∧ w46.cell? ⟨k2, 9, none⟩ = some (.int .i64 nr2_9_3)) ∧
  R (.tuple #[.agg #[.int .u64 nr2_0_3, .int .u64 nr2_1_3, .int .i64 nr2_2_3, .int .i64 nr2_3_3, .int .i64 nr2_4_3, .int .i64 nr2_5_3, .bool br2_6_3, .int .i64 nr2_7_3, .int .i64 nr2_8_3, .int .i64 nr2_9_3], .int .i64 81]) w46) ∧
  ((n51 != 827610706) = false →
  ∃ D : World → Prop, D w26.drew ∧
  ∃ a55 : Addr, p40_0 = some a55 ∧ (0 : Int) ≤ 1 ∧ 1 < (l40_0 : Int) ∧
  ∃ n56 : Int, (∀ w, D w → w.cell? (a55.add 1) = some (.int .u64 n56)) ∧
  ∃ a58 : Addr, p40_0 = some a58 ∧ (0 : Int) ≤ 2 ∧ 2 < (l40_0 : Int) ∧
  ∃ n59 : Int, (∀ w, D w → w.cell? (a58.add 2) = some (.int .u64 n59)) ∧
  Alloc #[.int .u64 0, .int .u64 0, .int .i64 0, .int .i64 0, .int .i64 0, .int .i64 0, .bool false, .int .i64 0, .int .i64 0, .int .i64 0] 58 w26.drew fun k11 w47 =>
  D w47 ∧
  St ⟨k11, 0, none⟩ (.int .u64 n56) w47 fun w48 =>
  St ⟨k11, 1, none⟩ (.int .u64 n59) w48 fun w49 =>
  St ⟨k11, 2, none⟩ (.int .i64 0) w49 fun w50 =>
  St ⟨k11, 3, none⟩ (.int .i64 0) w50 fun w51 =>
  St ⟨k11, 4, none⟩ (.int .i64 0) w51 fun w52 =>
  St ⟨k11, 5, none⟩ (.int .i64 0) w52 fun w53 =>
  St ⟨k11, 6, none⟩ (.bool false) w53 fun w54 =>
  St ⟨k11, 7, none⟩ (.int .i64 0) w54 fun w55 =>
  St ⟨k11, 8, none⟩ (.int .i64 0) w55 fun w56 =>
  St ⟨k11, 9, none⟩ (.int .i64 0) w56 fun w57 =>
  Alloc #[.int .i64 0] 3 w57 fun k12 w58 =>
  St ⟨k12, 0, none⟩ (.int .i64 0) w58 fun w59 =>
  Calls Try.prog 62 #[.pointer (some ⟨k11, 0, none⟩), .pointer (some ⟨k12, 0, none⟩)] w59 fun e_4 w60 => ∃ (p61 : Option Addr) (l61 c61 : Nat), e_4 = .returned (.slice p61 l61 c61) ∧
  LoopP (fun I => I [.int .i64 0] w60) fun K vs w61 => ∃ n63 : Int, vs = [.int .i64 n63] ∧
  ((decide (n63 < (l61 : Int))) = true →
  ∃ a66 : Addr, p61 = some a66 ∧ (0 : Int) ≤ n63 ∧ n63 < (l61 : Int) ∧
  ∃ p67_0 : Option Addr, ∃ n67_1 : Int, (w61.cell? (Addr.add a66 (n63.toNat * 2)) = some (.pointer p67_0) ∧ w61.cell? (Addr.add (Addr.add a66 (n63.toNat * 2)) 1) = some (.int .i64 n67_1)) ∧
  Alloc #[.pointer none, .int .i64 0] 99 w61 fun k14 w62 =>
  St ⟨k14, 0, none⟩ (.pointer p67_0) w62 fun w63 =>
  St ⟨k14, 1, none⟩ (.int .i64 n67_1) w63 fun w64 =>
  ∃ D_1 : World → Prop, D_1 w64.drew ∧
  ∃ p69 : Option Addr, (∀ w, D_1 w → w.cell? ⟨k14, 0, none⟩ = some (.pointer p69)) ∧
  ∃ a73 : Addr, p40_0 = some a73 ∧ (0 : Int) ≤ IntKind.i64.wrap (n63 + 3) ∧ (IntKind.i64.wrap (n63 + 3)) < (l40_0 : Int) ∧
  ∃ n74 : Int, (∀ w, D_1 w → w.cell? (Addr.add a73 ((IntKind.i64.wrap (n63 + 3)).toNat * 1)) = some (.int .u64 n74)) ∧
  ∃ a76 : Addr, p69 = some a76 ∧
  St a76 (.int .i64 (IntKind.i64.wrap n74)) w64.drew fun w65 =>
  K [.int .i64 (IntKind.i64.wrap (n63 + 1))] w65) ∧
  ((decide (n63 < (l61 : Int))) = false →
  ∃ n78 : Int, w61.cell? ⟨k12, 0, none⟩ = some (.int .i64 n78) ∧
  St ⟨k11, 6, none⟩ (.bool (n78 == 1)) w61 fun w66 =>
  ∃ n82_0 : Int, ∃ n82_1 : Int, ∃ n82_2 : Int, ∃ n82_3 : Int, ∃ n82_4 : Int, ∃ n82_5 : Int, ∃ b82_6 : Bool, ∃ n82_7 : Int, ∃ n82_8 : Int, ∃ n82_9 : Int, (w66.cell? ⟨k11, 0, none⟩ = some (.int .u64 n82_0) ∧ w66.cell? ⟨k11, 1, none⟩ = some (.int .u64 n82_1) ∧ w66.cell? ⟨k11, 2, none⟩ = some (.int .i64 n82_2) ∧ w66.cell? ⟨k11, 3, none⟩ = some (.int .i64 n82_3) ∧ w66.cell? ⟨k11, 4, none⟩ = some (.int .i64 n82_4) ∧ w66.cell? ⟨k11, 5, none⟩ = some (.int .i64 n82_5) ∧ w66.cell? ⟨k11, 6, none⟩ = some (.bool b82_6) ∧ w66.cell? ⟨k11, 7, none⟩ = some (.int .i64 n82_7) ∧ w66.cell? ⟨k11, 8, none⟩ = some (.int .i64 n82_8) ∧ w66.cell? ⟨k11, 9, none⟩ = some (.int .i64 n82_9)) ∧
  Calls Try.prog 36 #[.agg #[.int .u64 n82_0, .int .u64 n82_1, .int .i64 n82_2, .int .i64 n82_3, .int .i64 n82_4, .int .i64 n82_5, .bool b82_6, .int .i64 n82_7, .int .i64 n82_8, .int .i64 n82_9]] w66 fun e_5 w67 => ∃ s83_0 : ByteArray, ∃ n83_1 : Int, e_5 = .returned (.tuple #[.string s83_0, .int .i64 n83_1]) ∧
  ((n83_1 != 0) = true →
  St ⟨k2, 0, none⟩ (.int .u64 0) w67 fun w68 =>
  St ⟨k2, 1, none⟩ (.int .u64 0) w68 fun w69 =>
  St ⟨k2, 2, none⟩ (.int .i64 0) w69 fun w70 =>
  St ⟨k2, 3, none⟩ (.int .i64 0) w70 fun w71 =>
  St ⟨k2, 4, none⟩ (.int .i64 0) w71 fun w72 =>
  St ⟨k2, 5, none⟩ (.int .i64 0) w72 fun w73 =>
  St ⟨k2, 6, none⟩ (.bool false) w73 fun w74 =>
  St ⟨k2, 7, none⟩ (.int .i64 0) w74 fun w75 =>
  St ⟨k2, 8, none⟩ (.int .i64 0) w75 fun w76 =>
  St ⟨k2, 9, none⟩ (.int .i64 0) w76 fun w77 =>
  ∃ nr2_0_4 : Int, ∃ nr2_1_4 : Int, ∃ nr2_2_4 : Int, ∃ nr2_3_4 : Int, ∃ nr2_4_4 : Int, ∃ nr2_5_4 : Int, ∃ br2_6_4 : Bool, ∃ nr2_7_4 : Int, ∃ nr2_8_4 : Int, ∃ nr2_9_4 : Int, (w77.cell? ⟨k2, 0, none⟩ = some (.int .u64 nr2_0_4) ∧ w77.cell? ⟨k2, 1, none⟩ = some (.int .u64 nr2_1_4) ∧ w77.cell? ⟨k2, 2, none⟩ = some (.int .i64 nr2_2_4) ∧ w77.cell? ⟨k2, 3, none⟩ = some (.int .i64 nr2_3_4) ∧ w77.cell? ⟨k2, 4, none⟩ = some (.int .i64 nr2_4_4) ∧ w77.cell? ⟨k2, 5, none⟩ = some (.int .i64 nr2_5_4) ∧ w77.cell? ⟨k2, 6, none⟩ = some (.bool br2_6_4) ∧ w77.cell? ⟨k2, 7, none⟩ = some (.int .i64 nr2_7_4) ∧ w77.cell? ⟨k2, 8, none⟩ = some (.int .i64 nr2_8_4) ∧ w77.cell? ⟨k2, 9, none⟩ = some (.int .i64 nr2_9_4)) ∧
  R (.tuple #[.agg #[.int .u64 nr2_0_4, .int .u64 nr2_1_4, .int .i64 nr2_2_4, .int .i64 nr2_3_4, .int .i64 nr2_4_4, .int .i64 nr2_5_4, .bool br2_6_4, .int .i64 nr2_7_4, .int .i64 nr2_8_4, .int .i64 nr2_9_4], .int .i64 1]) w77) ∧
  ((n83_1 != 0) = false →
  ((!(s83_0.toList == s0.toList)) = true →
  St ⟨k2, 0, none⟩ (.int .u64 0) w67 fun w78 =>
  St ⟨k2, 1, none⟩ (.int .u64 0) w78 fun w79 =>
  St ⟨k2, 2, none⟩ (.int .i64 0) w79 fun w80 =>
  St ⟨k2, 3, none⟩ (.int .i64 0) w80 fun w81 =>
  St ⟨k2, 4, none⟩ (.int .i64 0) w81 fun w82 =>
  St ⟨k2, 5, none⟩ (.int .i64 0) w82 fun w83 =>
  St ⟨k2, 6, none⟩ (.bool false) w83 fun w84 =>
  St ⟨k2, 7, none⟩ (.int .i64 0) w84 fun w85 =>
  St ⟨k2, 8, none⟩ (.int .i64 0) w85 fun w86 =>
  St ⟨k2, 9, none⟩ (.int .i64 0) w86 fun w87 =>
  ∃ nr2_0_5 : Int, ∃ nr2_1_5 : Int, ∃ nr2_2_5 : Int, ∃ nr2_3_5 : Int, ∃ nr2_4_5 : Int, ∃ nr2_5_5 : Int, ∃ br2_6_5 : Bool, ∃ nr2_7_5 : Int, ∃ nr2_8_5 : Int, ∃ nr2_9_5 : Int, (w87.cell? ⟨k2, 0, none⟩ = some (.int .u64 nr2_0_5) ∧ w87.cell? ⟨k2, 1, none⟩ = some (.int .u64 nr2_1_5) ∧ w87.cell? ⟨k2, 2, none⟩ = some (.int .i64 nr2_2_5) ∧ w87.cell? ⟨k2, 3, none⟩ = some (.int .i64 nr2_3_5) ∧ w87.cell? ⟨k2, 4, none⟩ = some (.int .i64 nr2_4_5) ∧ w87.cell? ⟨k2, 5, none⟩ = some (.int .i64 nr2_5_5) ∧ w87.cell? ⟨k2, 6, none⟩ = some (.bool br2_6_5) ∧ w87.cell? ⟨k2, 7, none⟩ = some (.int .i64 nr2_7_5) ∧ w87.cell? ⟨k2, 8, none⟩ = some (.int .i64 nr2_8_5) ∧ w87.cell? ⟨k2, 9, none⟩ = some (.int .i64 nr2_9_5)) ∧
  R (.tuple #[.agg #[.int .u64 nr2_0_5, .int .u64 nr2_1_5, .int .i64 nr2_2_5, .int .i64 nr2_3_5, .int .i64 nr2_4_5, .int .i64 nr2_5_5, .bool br2_6_5, .int .i64 nr2_7_5, .int .i64 nr2_8_5, .int .i64 nr2_9_5], .int .i64 1]) w87) ∧
  ((!(s83_0.toList == s0.toList)) = false →
  ∃ n94_0 : Int, ∃ n94_1 : Int, ∃ n94_2 : Int, ∃ n94_3 : Int, ∃ n94_4 : Int, ∃ n94_5 : Int, ∃ b94_6 : Bool, ∃ n94_7 : Int, ∃ n94_8 : Int, ∃ n94_9 : Int, (w67.cell? ⟨k11, 0, none⟩ = some (.int .u64 n94_0) ∧ w67.cell? ⟨k11, 1, none⟩ = some (.int .u64 n94_1) ∧ w67.cell? ⟨k11, 2, none⟩ = some (.int .i64 n94_2) ∧ w67.cell? ⟨k11, 3, none⟩ = some (.int .i64 n94_3) ∧ w67.cell? ⟨k11, 4, none⟩ = some (.int .i64 n94_4) ∧ w67.cell? ⟨k11, 5, none⟩ = some (.int .i64 n94_5) ∧ w67.cell? ⟨k11, 6, none⟩ = some (.bool b94_6) ∧ w67.cell? ⟨k11, 7, none⟩ = some (.int .i64 n94_7) ∧ w67.cell? ⟨k11, 8, none⟩ = some (.int .i64 n94_8) ∧ w67.cell? ⟨k11, 9, none⟩ = some (.int .i64 n94_9)) ∧
  St ⟨k2, 0, none⟩ (.int .u64 n94_0) w67 fun w88 =>
  St ⟨k2, 1, none⟩ (.int .u64 n94_1) w88 fun w89 =>
  St ⟨k2, 2, none⟩ (.int .i64 n94_2) w89 fun w90 =>
  St ⟨k2, 3, none⟩ (.int .i64 n94_3) w90 fun w91 =>
  St ⟨k2, 4, none⟩ (.int .i64 n94_4) w91 fun w92 =>
  St ⟨k2, 5, none⟩ (.int .i64 n94_5) w92 fun w93 =>
  St ⟨k2, 6, none⟩ (.bool b94_6) w93 fun w94 =>
  St ⟨k2, 7, none⟩ (.int .i64 n94_7) w94 fun w95 =>
  St ⟨k2, 8, none⟩ (.int .i64 n94_8) w95 fun w96 =>
  St ⟨k2, 9, none⟩ (.int .i64 n94_9) w96 fun w97 =>
  ∃ nr2_0_6 : Int, ∃ nr2_1_6 : Int, ∃ nr2_2_6 : Int, ∃ nr2_3_6 : Int, ∃ nr2_4_6 : Int, ∃ nr2_5_6 : Int, ∃ br2_6_6 : Bool, ∃ nr2_7_6 : Int, ∃ nr2_8_6 : Int, ∃ nr2_9_6 : Int, (w97.cell? ⟨k2, 0, none⟩ = some (.int .u64 nr2_0_6) ∧ w97.cell? ⟨k2, 1, none⟩ = some (.int .u64 nr2_1_6) ∧ w97.cell? ⟨k2, 2, none⟩ = some (.int .i64 nr2_2_6) ∧ w97.cell? ⟨k2, 3, none⟩ = some (.int .i64 nr2_3_6) ∧ w97.cell? ⟨k2, 4, none⟩ = some (.int .i64 nr2_4_6) ∧ w97.cell? ⟨k2, 5, none⟩ = some (.int .i64 nr2_5_6) ∧ w97.cell? ⟨k2, 6, none⟩ = some (.bool br2_6_6) ∧ w97.cell? ⟨k2, 7, none⟩ = some (.int .i64 nr2_7_6) ∧ w97.cell? ⟨k2, 8, none⟩ = some (.int .i64 nr2_8_6) ∧ w97.cell? ⟨k2, 9, none⟩ = some (.int .i64 nr2_9_6)) ∧
  R (.tuple #[.agg #[.int .u64 nr2_0_6, .int .u64 nr2_1_6, .int .i64 nr2_2_6, .int .i64 nr2_3_6, .int .i64 nr2_4_6, .int .i64 nr2_5_6, .bool br2_6_6, .int .i64 nr2_7_6, .int .i64 nr2_8_6, .int .i64 nr2_9_6], .int .i64 0]) w97)))))))
theorem super_Decode_eq (s0 : ByteArray) (w : World) (R : Value → World → Prop) : super_Decode s0 w R = fnP Try.prog Try.f66 (.s .o (.s .o (.s .o (.s .o (.s .o (.s .o (.s .o (.s .o (.s .o (.s .o (.s (.s .o (.b (.l [(63, .one (.int .i64))] .o))) .o))))))))))) [.string s0] w R := by kernel_rfl
theorem super_Decode_calls {s0 : ByteArray} {w : World} {R : Value → World → Prop} (h : super_Decode s0 w R) : Calls Try.prog 66 #[.string s0] w fun e w1 => ∃ v, e = .returned v ∧ R v w1 := fnP_calls callable Try.func66 (super_Decode_eq s0 w R ▸ h)

/-- revetment/super.May$1 -/
def super_May_1 (n0 : Int) (n1 : Int) (n2 : Int) (w : World) (R : Value → World → Prop) : Prop :=
  ((decide (n0 ≥ n1)) = true →
  R (.bool (decide (n0 ≤ n2))) w) ∧
  ((decide (n0 ≥ n1)) = false →
  R (.bool false) w)
theorem super_May_1_eq (n0 : Int) (n1 : Int) (n2 : Int) (w : World) (R : Value → World → Prop) : super_May_1 n0 n1 n2 w R = fnP Try.prog Try.f72 .o [.int .i64 n0, .int .i64 n1, .int .i64 n2] w R := by kernel_rfl
theorem super_May_1_calls {n0 : Int} {n1 : Int} {n2 : Int} {w : World} {R : Value → World → Prop} (h : super_May_1 n0 n1 n2 w R) : Calls Try.prog 72 #[.int .i64 n0, .int .i64 n1, .int .i64 n2] w fun e w1 => ∃ v, e = .returned v ∧ R v w1 := fnP_calls callable Try.func72 (super_May_1_eq n0 n1 n2 w R ▸ h)

/-- revetment/layout.Check -/
def layout_Check (n0_0 : Int) (n0_1 : Int) (n0_2 : Int) (w : World) (R : Value → World → Prop) : Prop :=
  Alloc #[.int .i64 n0_0, .int .i64 n0_1, .int .i64 n0_2] 56 w fun k1 w1 =>
  ∃ n6 : Int, w1.cell? ⟨k1, 0, none⟩ = some (.int .i64 n6) ∧
  ∃ n9 : Int, w1.cell? ⟨k1, 1, none⟩ = some (.int .i64 n9) ∧
  ∃ n12 : Int, w1.cell? ⟨k1, 2, none⟩ = some (.int .i64 n12) ∧
  LoopP (fun I => I [.int .i64 0] w1) fun K vs w2 => ∃ n15 : Int, vs = [.int .i64 n15] ∧
  ((decide (n15 < 3)) = true →
  ∃ n17_0 : Int, ∃ n17_1 : Int, ∃ n17_2 : Int, ∃ w3, (Instr.index 134 (.agg #[.int .i64 4, .int .i64 n6, .int .i64 10, .int .i64 1, .int .i64 n9, .int .i64 4, .int .i64 1, .int .i64 n12, .int .i64 256]) (.int .i64 n15)).run Try.prog w2 = .ok (.agg #[.int .i64 n17_0, .int .i64 n17_1, .int .i64 n17_2]) w3 ∧
  Alloc #[.int .i64 0, .int .i64 0, .int .i64 0] 133 w3 fun k4 w4 =>
  St ⟨k4, 0, none⟩ (.int .i64 n17_0) w4 fun w5 =>
  St ⟨k4, 1, none⟩ (.int .i64 n17_1) w5 fun w6 =>
  St ⟨k4, 2, none⟩ (.int .i64 n17_2) w6 fun w7 =>
  (0 : Int) ≤ 1 ∧ 1 < (3 : Int) ∧
  ∃ n19 : Int, w7.cell? ⟨k4, 1, none⟩ = some (.int .i64 n19) ∧
  (0 : Int) ≤ 0 ∧ 0 < (3 : Int) ∧
  ∃ n21 : Int, w7.cell? ⟨k4, 0, none⟩ = some (.int .i64 n21) ∧
  ((decide (n19 < n21)) = true →
  R (.int .i64 1) w7) ∧
  ((decide (n19 < n21)) = false →
  (0 : Int) ≤ 1 ∧ 1 < (3 : Int) ∧
  ∃ n25 : Int, w7.cell? ⟨k4, 1, none⟩ = some (.int .i64 n25) ∧
  (0 : Int) ≤ 2 ∧ 2 < (3 : Int) ∧
  ∃ n27 : Int, w7.cell? ⟨k4, 2, none⟩ = some (.int .i64 n27) ∧
  ((decide (n25 > n27)) = true →
  R (.int .i64 1) w7) ∧
  ((decide (n25 > n27)) = false →
  K [.int .i64 (IntKind.i64.wrap (n15 + 1))] w7))) ∧
  ((decide (n15 < 3)) = false →
  R (.int .i64 0) w2)
theorem layout_Check_eq (n0_0 : Int) (n0_1 : Int) (n0_2 : Int) (w : World) (R : Value → World → Prop) : layout_Check n0_0 n0_1 n0_2 w R = fnP Try.prog Try.f73 (.s .o (.s (.s .o (.b (.l [(15, .one (.int .i64))] .o))) .o)) [.agg #[.int .i64 n0_0, .int .i64 n0_1, .int .i64 n0_2]] w R := by kernel_rfl
theorem layout_Check_calls {n0_0 : Int} {n0_1 : Int} {n0_2 : Int} {w : World} {R : Value → World → Prop} (h : layout_Check n0_0 n0_1 n0_2 w R) : Calls Try.prog 73 #[.agg #[.int .i64 n0_0, .int .i64 n0_1, .int .i64 n0_2]] w fun e w1 => ∃ v, e = .returned v ∧ R v w1 := fnP_calls callable Try.func73 (layout_Check_eq n0_0 n0_1 n0_2 w R ▸ h)

/-- revetment/pack.Size -/
def pack_Size (p0 : Option Addr) (l0 c0 : Nat) (w : World) (R : Value → World → Prop) : Prop :=
  LoopP (fun I => I [.int .i64 0, .int .i64 0] w) fun K vs w1 => ∃ n4 : Int, ∃ n9 : Int, vs = [.int .i64 n4, .int .i64 n9] ∧
  ((decide (n9 < (l0 : Int))) = true →
  ∃ a11 : Addr, p0 = some a11 ∧ (0 : Int) ≤ n9 ∧ n9 < (l0 : Int) ∧
  ∃ n12 : Int, w1.cell? (Addr.add a11 (n9.toNat * 1)) = some (.int .i64 n12) ∧
  ((decide (n12 < 1)) = true →
  R (.tuple #[.int .i64 0, .int .i64 1]) w1) ∧
  ((decide (n12 < 1)) = false →
  ((decide (n12 > 8)) = true →
  R (.tuple #[.int .i64 0, .int .i64 1]) w1) ∧
  ((decide (n12 > 8)) = false →
  K [.int .i64 (IntKind.i64.wrap (n4 + n12)), .int .i64 (IntKind.i64.wrap (n9 + 1))] w1))) ∧
  ((decide (n9 < (l0 : Int))) = false →
  ((decide ((l0 : Int) > 64)) = true →
  R (.tuple #[.int .i64 0, .int .i64 1]) w1) ∧
  ((decide ((l0 : Int) > 64)) = false →
  R (.tuple #[.int .i64 n4, .int .i64 0]) w1))
theorem pack_Size_eq (p0 : Option Addr) (l0 c0 : Nat) (w : World) (R : Value → World → Prop) : pack_Size p0 l0 c0 w R = fnP Try.prog Try.f74 (.s .o (.s .o (.s (.s .o (.b (.l [(4, .one (.int .i64)), (9, .one (.int .i64))] .o))) .o))) [.slice p0 l0 c0] w R := by kernel_rfl
theorem pack_Size_calls {p0 : Option Addr} {l0 c0 : Nat} {w : World} {R : Value → World → Prop} (h : pack_Size p0 l0 c0 w R) : Calls Try.prog 74 #[.slice p0 l0 c0] w fun e w1 => ∃ v, e = .returned v ∧ R v w1 := fnP_calls callable Try.func74 (pack_Size_eq p0 l0 c0 w R ▸ h)

/-- revetment/pack.Fits -/
def pack_Fits (n0 : Int) (n1 : Int) (w : World) (R : Value → World → Prop) : Prop :=
  ((n1 == 8) = true →
  R (.bool true) w) ∧
  ((n1 == 8) = false →
  ((decide (n1 > 0)) = true →
  ((decide (n1 < 8)) = true →
  (0 : Int) ≤ (IntKind.i64.wrap (8 * n1)) ∧
  R (.bool ((Int.fdiv n0 (2 ^ (min (IntKind.i64.wrap (8 * n1)).toNat 64))) == 0)) w) ∧
  ((decide (n1 < 8)) = false →
  R (.bool false) w)) ∧
  ((decide (n1 > 0)) = false →
  R (.bool false) w))
theorem pack_Fits_eq (n0 : Int) (n1 : Int) (w : World) (R : Value → World → Prop) : pack_Fits n0 n1 w R = fnP Try.prog Try.f75 .o [.int .u64 n0, .int .i64 n1] w R := by kernel_rfl
theorem pack_Fits_calls {n0 : Int} {n1 : Int} {w : World} {R : Value → World → Prop} (h : pack_Fits n0 n1 w R) : Calls Try.prog 75 #[.int .u64 n0, .int .i64 n1] w fun e w1 => ∃ v, e = .returned v ∧ R v w1 := fnP_calls callable Try.func75 (pack_Fits_eq n0 n1 w R ▸ h)

/-- revetment/pack.places -/
def pack_places (p0 : Option Addr) (l0 c0 : Nat) (w : World) (R : Value → World → Prop) : Prop :=
  Alloc #[.slice p0 l0 c0] 101 w fun k1 w1 =>
  R (.func (.func 89) #[] #[.pointer (some ⟨k1, 0, none⟩)]) w1
theorem pack_places_eq (p0 : Option Addr) (l0 c0 : Nat) (w : World) (R : Value → World → Prop) : pack_places p0 l0 c0 w R = fnP Try.prog Try.f76 .o [.slice p0 l0 c0] w R := by kernel_rfl
theorem pack_places_calls {p0 : Option Addr} {l0 c0 : Nat} {w : World} {R : Value → World → Prop} (h : pack_places p0 l0 c0 w R) : Calls Try.prog 76 #[.slice p0 l0 c0] w fun e w1 => ∃ v, e = .returned v ∧ R v w1 := fnP_calls callable Try.func76 (pack_places_eq p0 l0 c0 w R ▸ h)

/-- revetment/crc.bytes -/
def crc_bytes (n0 : Int) (w : World) (R : Value → World → Prop) : Prop :=
  Alloc #[.int .u8 (IntKind.u8.wrap n0), .int .u8 (IntKind.u8.wrap (Int.fdiv n0 (2 ^ 8))), .int .u8 (IntKind.u8.wrap (Int.fdiv n0 (2 ^ 16))), .int .u8 (IntKind.u8.wrap (Int.fdiv n0 (2 ^ 24)))] 5 w fun k14 w1 =>
  R (.slice (some ⟨k14, 0, none⟩) 4 4) w1
theorem crc_bytes_eq (n0 : Int) (w : World) (R : Value → World → Prop) : crc_bytes n0 w R = fnP Try.prog Try.f77 .o [.int .u32 n0] w R := by kernel_rfl
theorem crc_bytes_calls {n0 : Int} {w : World} {R : Value → World → Prop} (h : crc_bytes n0 w R) : Calls Try.prog 77 #[.int .u32 n0] w fun e w1 => ∃ v, e = .returned v ∧ R v w1 := fnP_calls callable Try.func77 (crc_bytes_eq n0 w R ▸ h)

/-- revetment/crc.Sum -/
def crc_Sum (s0 : ByteArray) (w : World) (R : Value → World → Prop) : Prop :=
  Calls Try.prog 90 #[.int .u32 0, .string s0] w fun e w1 => ∃ n4 : Int, e = .returned (.int .u32 n4) ∧
  R (.int .u32 n4) w1
theorem crc_Sum_eq (s0 : ByteArray) (w : World) (R : Value → World → Prop) : crc_Sum s0 w R = fnP Try.prog Try.f78 .o [.string s0] w R := by kernel_rfl
theorem crc_Sum_calls {s0 : ByteArray} {w : World} {R : Value → World → Prop} (h : crc_Sum s0 w R) : Calls Try.prog 78 #[.string s0] w fun e w1 => ∃ v, e = .returned v ∧ R v w1 := fnP_calls callable Try.func78 (crc_Sum_eq s0 w R ▸ h)

/-- revetment/crc.Open -/
def crc_Open (s0 : ByteArray) (w : World) (R : Value → World → Prop) : Prop :=
  ∃ D : World → Prop, D w.drew ∧
  ((decide ((IntKind.i64.wrap ((s0.size : Int) - 4)) < 0)) = true →
  R (.tuple #[.string (ByteArray.mk #[]), .bool false]) w.drew) ∧
  ((decide ((IntKind.i64.wrap ((s0.size : Int) - 4)) < 0)) = false →
  ∃ s13 : ByteArray, (∀ w, D w → (Instr.sliceAt 9 (.string s0) none (some (.int .i64 (IntKind.i64.wrap ((s0.size : Int) - 4)))) none).run Try.prog w = .ok (.string s13) w) ∧
  Calls Try.prog 78 #[.string s13] w.drew fun e w1 => ∃ n14 : Int, e = .returned (.int .u32 n14) ∧
  D w1 ∧
  Calls Try.prog 77 #[.int .u32 n14] w1 fun e_1 w2 => ∃ (p15 : Option Addr) (l15 c15 : Nat), e_1 = .returned (.slice p15 l15 c15) ∧
  D w2 ∧
  ∃ s16 : ByteArray, (∀ x0, x0 = w2 → (convert 30 9 (.slice p15 l15 c15)).run Try.prog x0 = .ok (.string s16) x0) ∧
  ∃ s19 : ByteArray, (∀ w, D w → (Instr.sliceAt 9 (.string s0) (some (.int .i64 (IntKind.i64.wrap ((s0.size : Int) - 4)))) none none).run Try.prog w = .ok (.string s19) w) ∧
  ((!(s16.toList == s19.toList)) = true →
  R (.tuple #[.string (ByteArray.mk #[]), .bool false]) w2) ∧
  ((!(s16.toList == s19.toList)) = false →
  ∃ s24 : ByteArray, ∃ w3, (Instr.sliceAt 9 (.string s0) none (some (.int .i64 (IntKind.i64.wrap ((s0.size : Int) - 4)))) none).run Try.prog w2 = .ok (.string s24) w3 ∧
  R (.tuple #[.string s24, .bool true]) w3))
theorem crc_Open_eq (s0 : ByteArray) (w : World) (R : Value → World → Prop) : crc_Open s0 w R = fnP Try.prog Try.f79 .o [.string s0] w R := by kernel_rfl
theorem crc_Open_calls {s0 : ByteArray} {w : World} {R : Value → World → Prop} (h : crc_Open s0 w R) : Calls Try.prog 79 #[.string s0] w fun e w1 => ∃ v, e = .returned v ∧ R v w1 := fnP_calls callable Try.func79 (crc_Open_eq s0 w R ▸ h)

/-- revetment/pack.Decode -/
def pack_Decode (s0 : ByteArray) (p1 : Option Addr) (l1 c1 : Nat) (w : World) (R : Value → World → Prop) : Prop :=
  Alloc #[.string s0] 9 w fun k2 w1 =>
  Calls Try.prog 74 #[.slice p1 l1 c1] w1 fun e w2 => ∃ n13_0 : Int, ∃ n13_1 : Int, e = .returned (.tuple #[.int .i64 n13_0, .int .i64 n13_1]) ∧
  ((n13_1 != 0) = true →
  R (.tuple #[.slice none 0 0, .int .i64 n13_1]) w2) ∧
  ((n13_1 != 0) = false →
  ∃ s21 : ByteArray, w2.cell? ⟨k2, 0, none⟩ = some (.string s21) ∧
  (((s21.size : Int) != n13_0) = true →
  R (.tuple #[.slice none 0 0, .int .i64 31]) w2) ∧
  (((s21.size : Int) != n13_0) = false →
  ∃ (p27 : Option Addr) (l27 c27 : Nat), ∃ w3, (Instr.makeSlice 94 (.int .i64 (l1 : Int)) (.int .i64 (l1 : Int))).run Try.prog w2 = .ok (.slice p27 l27 c27) w3 ∧
  Alloc #[.slice none 0 0] 94 w3 fun k8 w4 =>
  St ⟨k8, 0, none⟩ (.slice p27 l27 c27) w4 fun w5 =>
  Calls Try.prog 76 #[.slice p1 l1 c1] w5 fun e_1 w6 => ∃ v29 : Value, e_1 = .returned v29 ∧
  RangeP Try.prog v29 (fun ob l args W Φ => ∃ n30 : Int, ∃ n31 : Int, args = [.int .i64 n30, .int .i64 n31] ∧
  RoundP ob l Φ (fun K X R w7 =>
  ∃ D : World → Prop, D w7.drew ∧
  ∃ (p32 : Option Addr) (l32 c32 : Nat), (∀ w, D w → w.cell? ⟨k8, 0, none⟩ = some (.slice p32 l32 c32)) ∧
  ∃ a34 : Addr, p32 = some a34 ∧ (0 : Int) ≤ n30 ∧ n30 < (l32 : Int) ∧
  ∃ n35 : Int, (∀ w, D w → w.cell? (Addr.add a34 (n30.toNat * 1)) = some (.int .u64 n35)) ∧
  ∃ s36 : ByteArray, (∀ w, D w → w.cell? ⟨k2, 0, none⟩ = some (.string s36)) ∧
  ∃ n37 : Int, (∀ w, D w → (Instr.index 9 (.string s36) (.int .i64 0)).run Try.prog w = .ok (.int .u8 n37) w) ∧
  (0 : Int) ≤ n31 ∧
  ∃ a42 : Addr, p32 = some a42 ∧ (0 : Int) ≤ n30 ∧ n30 < (l32 : Int) ∧
  St (Addr.add a42 (n30.toNat * 1)) (.int .u64 (bits2 .or .u64 n35 (IntKind.u64.wrap ((IntKind.u64.wrap n37) * 2 ^ (min n31.toNat 64))))) w7.drew fun w8 =>
  ∃ s43 : ByteArray, w8.cell? ⟨k2, 0, none⟩ = some (.string s43) ∧
  ∃ s44 : ByteArray, ∃ w9, (Instr.sliceAt 9 (.string s43) (some (.int .i64 1)) none none).run Try.prog w8 = .ok (.string s44) w9 ∧
  St ⟨k2, 0, none⟩ (.string s44) w9 fun w10 =>
  K w10) W) []
  (fun d w11 =>
  ∃ (p45 : Option Addr) (l45 c45 : Nat), w11.cell? ⟨k8, 0, none⟩ = some (.slice p45 l45 c45) ∧
  w11.heap[d]? = some (.deferred (some [])) ∧
  R (.tuple #[.slice p45 l45 c45, .int .i64 0]) (w11.putObj d (.deferred none)))
  (fun d_1 w12 =>
  w12.heap[d_1]? = some (.deferred (some [])) ∧
  R (.tuple #[.slice none 0 0, .int .i64 0]) (w12.putObj d_1 (.deferred none))) w6))
theorem pack_Decode_eq (s0 : ByteArray) (p1 : Option Addr) (l1 c1 : Nat) (w : World) (R : Value → World → Prop) : pack_Decode s0 p1 l1 c1 w R = fnP Try.prog Try.f80 (.s .o (.s .o (.s .o (.s .o (.s (.s .o (.b (.rf [(30, .one (.int .i64)), (31, .one (.int .i64))] .o))) .o))))) [.string s0, .slice p1 l1 c1] w R := by kernel_rfl
theorem pack_Decode_calls {s0 : ByteArray} {p1 : Option Addr} {l1 c1 : Nat} {w : World} {R : Value → World → Prop} (h : pack_Decode s0 p1 l1 c1 w R) : Calls Try.prog 80 #[.string s0, .slice p1 l1 c1] w fun e w1 => ∃ v, e = .returned v ∧ R v w1 := fnP_calls callable Try.func80 (pack_Decode_eq s0 p1 l1 c1 w R ▸ h)

/-- revetment/pack.places$1 -/
def pack_places_1 (v0 : Value) (k1 : Addr) (w : World) (R : Value → World → Prop) : Prop :=
  ∃ (p6 : Option Addr) (l6 c6 : Nat), w.cell? k1 = some (.slice p6 l6 c6) ∧
  LoopP (fun I => I [.int .i64 0] w) fun K vs w1 => ∃ n8 : Int, vs = [.int .i64 n8] ∧
  ((decide (n8 < (l6 : Int))) = true →
  ∃ a11 : Addr, p6 = some a11 ∧ (0 : Int) ≤ n8 ∧ n8 < (l6 : Int) ∧
  ∃ n12 : Int, w1.cell? (Addr.add a11 (n8.toNat * 1)) = some (.int .i64 n12) ∧
  LoopP (fun I_1 => I_1 [.int .i64 0] w1) fun K_1 vs_1 w2 => ∃ n14 : Int, vs_1 = [.int .i64 n14] ∧
  ((decide (n14 < n12)) = true →
  CallF Try.prog v0 [.int .i64 n8, .int .i64 (IntKind.i64.wrap (8 * n14))] w2 fun e w3 => ∃ b21 : Bool, e = .returned (.bool b21) ∧
  ((!b21) = true →
  R (.tuple #[]) w3) ∧
  ((!b21) = false →
  K_1 [.int .i64 (IntKind.i64.wrap (n14 + 1))] w3)) ∧
  ((decide (n14 < n12)) = false →
  K [.int .i64 (IntKind.i64.wrap (n8 + 1))] w2)) ∧
  ((decide (n8 < (l6 : Int))) = false →
  R (.tuple #[]) w1)
theorem pack_places_1_eq (v0 : Value) (k1 : Addr) (w : World) (R : Value → World → Prop) : pack_places_1 v0 k1 w R = fnP Try.prog Try.f89 (.s .o (.b (.l [(8, .one (.int .i64))] (.s .o (.s .o (.s (.b (.s .o (.s .o (.b (.l [(14, .one (.int .i64))] .o))))) .o)))))) [v0, .pointer (some k1)] w R := by kernel_rfl
theorem pack_places_1_calls {v0 : Value} {k1 : Addr} {w : World} {R : Value → World → Prop} (h : pack_places_1 v0 k1 w R) : Calls Try.prog 89 #[v0, .pointer (some k1)] w fun e w1 => ∃ v, e = .returned v ∧ R v w1 := fnP_calls callable Try.func89 (pack_places_1_eq v0 k1 w R ▸ h)

/-- revetment/crc.More -/
def crc_More (n0 : Int) (s1 : ByteArray) (w : World) (R : Value → World → Prop) : Prop :=
  Calls Try.prog 101 #[] w fun e w1 => ∃ z9 : Array Value, z9.size = 16 ∧ e = .returned (.agg z9) ∧
  Alloc #[.int .u32 0, .int .u32 0, .int .u32 0, .int .u32 0, .int .u32 0, .int .u32 0, .int .u32 0, .int .u32 0, .int .u32 0, .int .u32 0, .int .u32 0, .int .u32 0, .int .u32 0, .int .u32 0, .int .u32 0, .int .u32 0] 142 w1 fun k5 w2 =>
  ∃ w3, (Instr.storeAt 142 (.pointer (some ⟨k5, 0, none⟩)) (.agg z9)).run Try.prog w2 = .ok () w3 ∧
  Alloc #[.int .u32 0] 124 w3 fun k6 w4 =>
  St ⟨k6, 0, none⟩ (.int .u32 (bits2 .xor .u32 IntKind.u32.max n0)) w4 fun w5 =>
  LoopP (fun I => I [.int .i64 0] w5) fun K vs w6 => ∃ n15 : Int, vs = [.int .i64 n15] ∧
  ((decide (n15 < (s1.size : Int))) = true →
  ∃ D : World → Prop, D w6.drew ∧
  ∃ n18 : Int, (∀ w, D w → w.cell? ⟨k6, 0, none⟩ = some (.int .u32 n18)) ∧
  ∃ n21 : Int, (∀ w, D w → (Instr.index 9 (.string s1) (.int .i64 n15)).run Try.prog w = .ok (.int .u8 n21) w) ∧
  St ⟨k6, 0, none⟩ (.int .u32 (bits2 .xor .u32 n18 (IntKind.u32.wrap n21))) w6.drew fun w7 =>
  Calls Try.prog 102 #[.pointer (some ⟨k6, 0, none⟩), .pointer (some ⟨k5, 0, none⟩)] w7 fun e_1 w8 => e_1 = .returned (.tuple #[]) ∧
  Calls Try.prog 102 #[.pointer (some ⟨k6, 0, none⟩), .pointer (some ⟨k5, 0, none⟩)] w8 fun e_2 w9 => e_2 = .returned (.tuple #[]) ∧
  K [.int .i64 (IntKind.i64.wrap (n15 + 1))] w9) ∧
  ((decide (n15 < (s1.size : Int))) = false →
  ∃ n29 : Int, w6.cell? ⟨k6, 0, none⟩ = some (.int .u32 n29) ∧
  R (.int .u32 (bits2 .xor .u32 IntKind.u32.max n29)) w6)
theorem crc_More_eq (n0 : Int) (s1 : ByteArray) (w : World) (R : Value → World → Prop) : crc_More n0 s1 w R = fnP Try.prog Try.f90 (.s .o (.s .o (.s .o (.s .o (.s (.s .o (.b (.l [(15, .one (.int .i64))] .o))) .o))))) [.int .u32 n0, .string s1] w R := by kernel_rfl
theorem crc_More_calls {n0 : Int} {s1 : ByteArray} {w : World} {R : Value → World → Prop} (h : crc_More n0 s1 w R) : Calls Try.prog 90 #[.int .u32 n0, .string s1] w fun e w1 => ∃ v, e = .returned v ∧ R v w1 := fnP_calls callable Try.func90 (crc_More_eq n0 s1 w R ▸ h)

/-- revetment/crc.table -/
def crc_table (w : World) (R : Value → World → Prop) : Prop :=
  Alloc #[.int .u32 0, .int .u32 0, .int .u32 0, .int .u32 0, .int .u32 0, .int .u32 0, .int .u32 0, .int .u32 0, .int .u32 0, .int .u32 0, .int .u32 0, .int .u32 0, .int .u32 0, .int .u32 0, .int .u32 0, .int .u32 0] 142 w fun k0 w1 =>
  Alloc #[.int .u32 0, .int .u32 0, .int .u32 0, .int .u32 0, .int .u32 0, .int .u32 0, .int .u32 0, .int .u32 0, .int .u32 0, .int .u32 0, .int .u32 0, .int .u32 0, .int .u32 0, .int .u32 0, .int .u32 0, .int .u32 0] 142 w1 fun k1 w2 =>
  LoopP (fun I => I [.int .i64 0] w2) fun K vs w3 => ∃ n4 : Int, vs = [.int .i64 n4] ∧
  ((decide (n4 < 16)) = true →
  LoopP (fun I_1 => I_1 [.int .u32 (IntKind.u32.wrap n4), .int .i64 0] w3) fun K_1 vs_1 w4 => ∃ n3 : Int, ∃ n9 : Int, vs_1 = [.int .u32 n3, .int .i64 n9] ∧
  ((decide (n9 < 4)) = true →
  K_1 [.int .u32 (bits2 .xor .u32 (Int.fdiv n3 (2 ^ 1)) (IntKind.u32.wrap (2197175160 * (bits2 .and .u32 n3 1)))), .int .i64 (IntKind.i64.wrap (n9 + 1))] w4) ∧
  ((decide (n9 < 4)) = false →
  (0 : Int) ≤ n4 ∧ n4 < (16 : Int) ∧
  St (Addr.add ⟨k1, 0, none⟩ (n4.toNat * 1)) (.int .u32 n3) w4 fun w5 =>
  K [.int .i64 (IntKind.i64.wrap (n4 + 1))] w5)) ∧
  ((decide (n4 < 16)) = false →
  ∃ z22 : Array Value, z22.size = 16 ∧ bigAt w3 ⟨k1, 0, none⟩ z22 ∧
  ∃ w6, (Instr.storeAt 142 (.pointer (some ⟨k0, 0, none⟩)) (.agg z22)).run Try.prog w3 = .ok () w6 ∧
  ∃ zr0 : Array Value, zr0.size = 16 ∧ bigAt w6 ⟨k0, 0, none⟩ zr0 ∧
  R (.agg zr0) w6)
theorem crc_table_eq (w : World) (R : Value → World → Prop) : crc_table w R = fnP Try.prog Try.f101 (.s .o (.s .o (.s (.s .o (.b (.l [(4, .one (.int .i64))] (.s .o (.s .o (.s (.b (.s .o (.s .o (.s (.s .o (.b (.l [(3, .one (.int .u32)), (9, .one (.int .i64))] .o))) .o)))) .o)))))) .o))) [] w R := by kernel_rfl
theorem crc_table_calls {w : World} {R : Value → World → Prop} (h : crc_table w R) : Calls Try.prog 101 #[] w fun e w1 => ∃ v, e = .returned v ∧ R v w1 := fnP_calls callable Try.func101 (crc_table_eq w R ▸ h)

/-- revetment/crc.More$1 -/
def crc_More_1 (k0 : Addr) (k1 : Addr) (w : World) (R : Value → World → Prop) : Prop :=
  ∃ D : World → Prop, D w.drew ∧
  ∃ n2 : Int, (∀ w, D w → w.cell? k0 = some (.int .u32 n2)) ∧
  ∃ n4 : Int, (∀ w, D w → w.cell? k0 = some (.int .u32 n4)) ∧
  (0 : Int) ≤ (bits2 .and .u32 n4 15) ∧ (bits2 .and .u32 n4 15) < (16 : Int) ∧
  ∃ n7 : Int, (∀ w, D w → w.cell? (Addr.add k1 ((bits2 .and .u32 n4 15).toNat * 1)) = some (.int .u32 n7)) ∧
  St k0 (.int .u32 (bits2 .xor .u32 (Int.fdiv n2 (2 ^ 4)) n7)) w.drew fun w1 =>
  R (.tuple #[]) w1
theorem crc_More_1_eq (k0 : Addr) (k1 : Addr) (w : World) (R : Value → World → Prop) : crc_More_1 k0 k1 w R = fnP Try.prog Try.f102 .o [.pointer (some k0), .pointer (some k1)] w R := by kernel_rfl
theorem crc_More_1_calls {k0 : Addr} {k1 : Addr} {w : World} {R : Value → World → Prop} (h : crc_More_1 k0 k1 w R) : Calls Try.prog 102 #[.pointer (some k0), .pointer (some k1)] w fun e w1 => ∃ v, e = .returned v ∧ R v w1 := fnP_calls callable Try.func102 (crc_More_1_eq k0 k1 w R ▸ h)

end Go.Proofs.Ytdppllkjibfjcaa
