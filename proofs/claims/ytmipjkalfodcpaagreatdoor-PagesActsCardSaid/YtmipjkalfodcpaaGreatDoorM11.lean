import Derived.Test.YtmipjkalfodcpaaGreatDoorM2
import Derived.Test.YtmipjkalfodcpaaGreatDoorM10
/-! The formulas of Go functions, printed by a program of this session (shprint.py), each tied to the loaded function by the kernel. -/
namespace Go.Proofs.YtmipjkalfodcpaaGreatDoor
open Go.Sh
set_option linter.unusedVariables false
set_option maxRecDepth 100000
/-- revetment/revetmentref11.Save -/
def revetmentref11_Save (p0 : Option Addr) (n1_0 : Int) (s1_1 : ByteArray) (w : World) (R : Value → World → Prop) : Prop :=
  Alloc #[.int .u64 n1_0, .string s1_1] 38 w fun k3 w1 =>
  ∃ n9_0 : Int, ∃ s9_1 : ByteArray, (w1.cell? ⟨k3, 0, none⟩ = some (.int .u64 n9_0) ∧ w1.cell? ⟨k3, 1, none⟩ = some (.string s9_1)) ∧
  Calls Tryz.prog 26 #[.agg #[.int .u64 n9_0, .string s9_1]] w1 fun e w2 => ∃ s10_0 : ByteArray, ∃ n10_1 : Int, e = .returned (.tuple #[.string s10_0, .int .i64 n10_1]) ∧
  ((n10_1 != 0) = true →
  R (.int .i64 n10_1) w2) ∧
  ((n10_1 != 0) = false →
  Calls Tryz.prog 11 #[.pointer p0, .int .i64 2, .string s10_0] w2 fun e_1 w3 => ∃ n18 : Int, e_1 = .returned (.int .i64 n18) ∧
  ((n18 != 0) = true →
  R (.int .i64 n18) w3) ∧
  ((n18 != 0) = false →
  Calls Tryz.prog 27 #[.pointer p0] w3 fun e_2 w4 => ∃ n23 : Int, e_2 = .returned (.int .i64 n23) ∧
  R (.int .i64 n23) w4))
theorem revetmentref11_Save_eq (p0 : Option Addr) (n1_0 : Int) (s1_1 : ByteArray) (w : World) (R : Value → World → Prop) : revetmentref11_Save p0 n1_0 s1_1 w R = fnP Tryz.prog Tryz.f8 .o [.pointer p0, .agg #[.int .u64 n1_0, .string s1_1]] w R := by kernel_rfl
theorem revetmentref11_Save_calls {p0 : Option Addr} {n1_0 : Int} {s1_1 : ByteArray} {w : World} {R : Value → World → Prop} (h : revetmentref11_Save p0 n1_0 s1_1 w R) : Calls Tryz.prog 8 #[.pointer p0, .agg #[.int .u64 n1_0, .string s1_1]] w fun e w1 => ∃ v, e = .returned v ∧ R v w1 := fnP_calls callable Tryz.func8 (revetmentref11_Save_eq p0 n1_0 s1_1 w R ▸ h)

/-- revetment/revetmentref11.All -/
def revetmentref11_All (p0 : Option Addr) (l0 c0 : Nat) (n1_0 : Int) (s1_1 : ByteArray) (w : World) (R : Value → World → Prop) : Prop :=
  Alloc #[.int .u64 n1_0, .string s1_1] 38 w fun k3 w1 =>
  ∃ n11_0 : Int, ∃ s11_1 : ByteArray, (w1.cell? ⟨k3, 0, none⟩ = some (.int .u64 n11_0) ∧ w1.cell? ⟨k3, 1, none⟩ = some (.string s11_1)) ∧
  Calls Tryz.prog 26 #[.agg #[.int .u64 n11_0, .string s11_1]] w1 fun e w2 => ∃ s12_0 : ByteArray, ∃ n12_1 : Int, e = .returned (.tuple #[.string s12_0, .int .i64 n12_1]) ∧
  ((n12_1 != 0) = true →
  R (.tuple #[.int .i64 0, .int .i64 n12_1]) w2) ∧
  ((n12_1 != 0) = false →
  LoopP (fun I => I [.int .i64 0, .int .i64 0] w2) fun K vs w3 => ∃ n8 : Int, ∃ n9 : Int, vs = [.int .i64 n8, .int .i64 n9] ∧
  ((decide (n9 < (l0 : Int))) = true →
  ∃ D : World → Prop, D w3.drew ∧
  ∃ a26 : Addr, p0 = some a26 ∧ (0 : Int) ≤ n9 ∧ n9 < (l0 : Int) ∧
  ∃ p27 : Option Addr, (∀ w, D w → w.cell? (Addr.add a26 (n9.toNat * 1)) = some (.pointer p27)) ∧
  ((!(Option.isNone p27)) = true →
  ∃ a32 : Addr, p0 = some a32 ∧ (0 : Int) ≤ n9 ∧ n9 < (l0 : Int) ∧
  ∃ p33 : Option Addr, (∀ w, D w → w.cell? (Addr.add a32 (n9.toNat * 1)) = some (.pointer p33)) ∧
  ∃ n34_0 : Int, ∃ s34_1 : ByteArray, (∀ w, D w → w.cell? ⟨k3, 0, none⟩ = some (.int .u64 n34_0) ∧ w.cell? ⟨k3, 1, none⟩ = some (.string s34_1)) ∧
  Calls Tryz.prog 8 #[.pointer p33, .agg #[.int .u64 n34_0, .string s34_1]] w3.drew fun e_1 w4 => ∃ n35 : Int, e_1 = .returned (.int .i64 n35) ∧
  D w4 ∧
  ((n35 == 0) = true →
  K [.int .i64 (IntKind.i64.wrap (n8 + 1)), .int .i64 (IntKind.i64.wrap (n9 + 1))] w4) ∧
  ((n35 == 0) = false →
  K [.int .i64 n8, .int .i64 (IntKind.i64.wrap (n9 + 1))] w4)) ∧
  ((!(Option.isNone p27)) = false →
  K [.int .i64 n8, .int .i64 (IntKind.i64.wrap (n9 + 1))] w3.drew)) ∧
  ((decide (n9 < (l0 : Int))) = false →
  ((n8 == 0) = true →
  R (.tuple #[.int .i64 0, .int .i64 60]) w3) ∧
  ((n8 == 0) = false →
  R (.tuple #[.int .i64 n8, .int .i64 0]) w3)))
theorem revetmentref11_All_eq (p0 : Option Addr) (l0 c0 : Nat) (n1_0 : Int) (s1_1 : ByteArray) (w : World) (R : Value → World → Prop) : revetmentref11_All p0 l0 c0 n1_0 s1_1 w R = fnP Tryz.prog Tryz.f16 (.s .o (.s .o (.s .o (.s .o (.s (.s .o (.b (.l [(8, .one (.int .i64)), (9, .one (.int .i64))] .o))) .o))))) [.slice p0 l0 c0, .agg #[.int .u64 n1_0, .string s1_1]] w R := by kernel_rfl
theorem revetmentref11_All_calls {p0 : Option Addr} {l0 c0 : Nat} {n1_0 : Int} {s1_1 : ByteArray} {w : World} {R : Value → World → Prop} (h : revetmentref11_All p0 l0 c0 n1_0 s1_1 w R) : Calls Tryz.prog 16 #[.slice p0 l0 c0, .agg #[.int .u64 n1_0, .string s1_1]] w fun e w1 => ∃ v, e = .returned v ∧ R v w1 := fnP_calls callable Tryz.func16 (revetmentref11_All_eq p0 l0 c0 n1_0 s1_1 w R ▸ h)

/-- revetment/revetmentref11.Load -/
def revetmentref11_Load (p0 : Option Addr) (w : World) (R : Value → World → Prop) : Prop :=
  Alloc #[.int .u64 0, .string (ByteArray.mk #[])] 38 w fun k2 w1 =>
  Calls Tryz.prog 36 #[.pointer p0, .int .i64 2] w1 fun e w2 => ∃ s8_0 : ByteArray, ∃ n8_1 : Int, e = .returned (.tuple #[.string s8_0, .int .i64 n8_1]) ∧
  ((n8_1 != 0) = true →
  St ⟨k2, 0, none⟩ (.int .u64 0) w2 fun w3 =>
  St ⟨k2, 1, none⟩ (.string (ByteArray.mk #[])) w3 fun w4 =>
  ∃ nr2_0 : Int, ∃ sr2_1 : ByteArray, (w4.cell? ⟨k2, 0, none⟩ = some (.int .u64 nr2_0) ∧ w4.cell? ⟨k2, 1, none⟩ = some (.string sr2_1)) ∧
  R (.tuple #[.agg #[.int .u64 nr2_0, .string sr2_1], .int .i64 n8_1]) w4) ∧
  ((n8_1 != 0) = false →
  Calls Tryz.prog 37 #[.string s8_0] w2 fun e_1 w5 => ∃ n16_0_0 : Int, ∃ s16_0_1 : ByteArray, ∃ n16_1 : Int, e_1 = .returned (.tuple #[.agg #[.int .u64 n16_0_0, .string s16_0_1], .int .i64 n16_1]) ∧
  St ⟨k2, 0, none⟩ (.int .u64 n16_0_0) w5 fun w6 =>
  St ⟨k2, 1, none⟩ (.string s16_0_1) w6 fun w7 =>
  ∃ nr2_0_1 : Int, ∃ sr2_1_1 : ByteArray, (w7.cell? ⟨k2, 0, none⟩ = some (.int .u64 nr2_0_1) ∧ w7.cell? ⟨k2, 1, none⟩ = some (.string sr2_1_1)) ∧
  R (.tuple #[.agg #[.int .u64 nr2_0_1, .string sr2_1_1], .int .i64 n16_1]) w7)
theorem revetmentref11_Load_eq (p0 : Option Addr) (w : World) (R : Value → World → Prop) : revetmentref11_Load p0 w R = fnP Tryz.prog Tryz.f19 .o [.pointer p0] w R := by kernel_rfl
theorem revetmentref11_Load_calls {p0 : Option Addr} {w : World} {R : Value → World → Prop} (h : revetmentref11_Load p0 w R) : Calls Tryz.prog 19 #[.pointer p0] w fun e w1 => ∃ v, e = .returned v ∧ R v w1 := fnP_calls callable Tryz.func19 (revetmentref11_Load_eq p0 w R ▸ h)

/-- revetment/revetmentref11.Join -/
def revetmentref11_Join (p0 : Option Addr) (l0 c0 : Nat) (n1 : Int) (w : World) (R : Value → World → Prop) : Prop :=
  Alloc #[.int .u8 0, .int .u8 0, .int .u8 0, .int .u8 0, .int .u8 0, .int .u8 0, .int .u8 0, .int .u8 0] 5 w fun k12 w1 =>
  LoopP (fun I => I [.bool false, .int .i64 0] w1) fun K vs w2 => ∃ b7 : Bool, ∃ n8 : Int, vs = [.bool b7, .int .i64 n8] ∧
  ((decide (n8 < (l0 : Int))) = true →
  ∃ a21 : Addr, p0 = some a21 ∧ (0 : Int) ≤ n8 ∧ n8 < (l0 : Int) ∧
  ∃ p22 : Option Addr, w2.cell? (Addr.add a21 (n8.toNat * 1)) = some (.pointer p22) ∧
  ((Option.isNone p22) = true →
  K [.bool b7, .int .i64 (IntKind.i64.wrap (n8 + 1))] w2) ∧
  ((Option.isNone p22) = false →
  ∃ a27 : Addr, p0 = some a27 ∧ (0 : Int) ≤ n8 ∧ n8 < (l0 : Int) ∧
  ∃ p28 : Option Addr, w2.cell? (Addr.add a27 (n8.toNat * 1)) = some (.pointer p28) ∧
  Calls Tryz.prog 19 #[.pointer p28] w2 fun e w3 => ∃ n29_0_0 : Int, ∃ s29_0_1 : ByteArray, ∃ n29_1 : Int, e = .returned (.tuple #[.agg #[.int .u64 n29_0_0, .string s29_0_1], .int .i64 n29_1]) ∧
  Alloc #[.int .u64 0, .string (ByteArray.mk #[])] 38 w3 fun k9 w4 =>
  St ⟨k9, 0, none⟩ (.int .u64 n29_0_0) w4 fun w5 =>
  St ⟨k9, 1, none⟩ (.string s29_0_1) w5 fun w6 =>
  ((n29_1 != 0) = true →
  K [.bool b7, .int .i64 (IntKind.i64.wrap (n8 + 1))] w6) ∧
  ((n29_1 != 0) = false →
  ∃ n36 : Int, w6.cell? ⟨k9, 0, none⟩ = some (.int .u64 n36) ∧
  ((decide (n36 < n1)) = true →
  K [.bool b7, .int .i64 (IntKind.i64.wrap (n8 + 1))] w6) ∧
  ((decide (n36 < n1)) = false →
  LoopP (fun I_1 => I_1 [.int .i64 0] w6) fun K_1 vs_1 w7 => ∃ n11 : Int, vs_1 = [.int .i64 n11] ∧
  ((decide (n11 < 8)) = true →
  ∃ D : World → Prop, D w7.drew ∧
  ∃ a48 : Addr, (some ⟨k12, 0, none⟩) = some a48 ∧ (0 : Int) ≤ n11 ∧ n11 < (8 : Int) ∧
  ∃ n49 : Int, (∀ w, D w → w.cell? (Addr.add a48 (n11.toNat * 1)) = some (.int .u8 n49)) ∧
  ∃ s51 : ByteArray, (∀ w, D w → w.cell? ⟨k9, 1, none⟩ = some (.string s51)) ∧
  ∃ n53 : Int, (∀ w, D w → (Instr.index 9 (.string s51) (.int .i64 n11)).run Tryz.prog w = .ok (.int .u8 n53) w) ∧
  ∃ a55 : Addr, (some ⟨k12, 0, none⟩) = some a55 ∧ (0 : Int) ≤ n11 ∧ n11 < (8 : Int) ∧
  St (Addr.add a55 (n11.toNat * 1)) (.int .u8 (bits2 .or .u8 n49 n53)) w7.drew fun w8 =>
  K_1 [.int .i64 (IntKind.i64.wrap (n11 + 1))] w8) ∧
  ((decide (n11 < 8)) = false →
  K [.bool true, .int .i64 (IntKind.i64.wrap (n8 + 1))] w7))))) ∧
  ((decide (n8 < (l0 : Int))) = false →
  ∃ s57 : ByteArray, ∃ w9, (convert 80 9 (.slice (some ⟨k12, 0, none⟩) 8 8)).run Tryz.prog w2 = .ok (.string s57) w9 ∧
  R (.tuple #[.string s57, .bool b7]) w9)
theorem revetmentref11_Join_eq (p0 : Option Addr) (l0 c0 : Nat) (n1 : Int) (w : World) (R : Value → World → Prop) : revetmentref11_Join p0 l0 c0 n1 w R = fnP Tryz.prog Tryz.f21 (.s .o (.s .o (.s .o (.s (.s .o (.b (.l [(7, .one .bool), (8, .one (.int .i64))] (.s .o (.s (.b (.s .o (.s .o (.s .o (.s .o (.s .o (.b (.l [(11, .one (.int .i64))] .o)))))))) .o))))) .o)))) [.slice p0 l0 c0, .int .u64 n1] w R := by kernel_rfl
theorem revetmentref11_Join_calls {p0 : Option Addr} {l0 c0 : Nat} {n1 : Int} {w : World} {R : Value → World → Prop} (h : revetmentref11_Join p0 l0 c0 n1 w R) : Calls Tryz.prog 21 #[.slice p0 l0 c0, .int .u64 n1] w fun e w1 => ∃ v, e = .returned v ∧ R v w1 := fnP_calls callable Tryz.func21 (revetmentref11_Join_eq p0 l0 c0 n1 w R ▸ h)

/-- revetment/revetmentref11.Encode -/
def revetmentref11_Encode (n0_0 : Int) (s0_1 : ByteArray) (w : World) (R : Value → World → Prop) : Prop :=
  Alloc #[.int .u64 n0_0, .string s0_1] 38 w fun k1 w1 =>
  ∃ s9 : ByteArray, w1.cell? ⟨k1, 1, none⟩ = some (.string s9) ∧
  (((s9.size : Int) != 8) = true →
  R (.tuple #[.string (ByteArray.mk #[]), .int .i64 1]) w1) ∧
  (((s9.size : Int) != 8) = false →
  ∃ n14 : Int, w1.cell? ⟨k1, 0, none⟩ = some (.int .u64 n14) ∧
  Alloc #[.int .u64 n14] 23 w1 fun k15 w2 =>
  Alloc #[.int .i64 8] 3 w2 fun k16 w3 =>
  Calls Tryz.prog 43 #[.slice (some ⟨k15, 0, none⟩) 1 1, .slice (some ⟨k16, 0, none⟩) 1 1] w3 fun e w4 => ∃ s17_0 : ByteArray, ∃ n17_1 : Int, e = .returned (.tuple #[.string s17_0, .int .i64 n17_1]) ∧
  (((ByteArray.mk #[82, 86, 84, 66]).size + s17_0.size : Nat) : Int) ≤ 9223372036854775807 ∧
  ∃ s24 : ByteArray, w4.cell? ⟨k1, 1, none⟩ = some (.string s24) ∧
  ((((ByteArray.mk #[82, 86, 84, 66]) ++ s17_0).size + s24.size : Nat) : Int) ≤ 9223372036854775807 ∧
  Calls Tryz.prog 44 #[.string (((ByteArray.mk #[82, 86, 84, 66]) ++ s17_0) ++ s24), .int .i64 64] w4 fun e_1 w5 => ∃ s26_0 : ByteArray, ∃ b26_1 : Bool, e_1 = .returned (.tuple #[.string s26_0, .bool b26_1]) ∧
  R (.tuple #[.string s26_0, .int .i64 0]) w5)
theorem revetmentref11_Encode_eq (n0_0 : Int) (s0_1 : ByteArray) (w : World) (R : Value → World → Prop) : revetmentref11_Encode n0_0 s0_1 w R = fnP Tryz.prog Tryz.f26 .o [.agg #[.int .u64 n0_0, .string s0_1]] w R := by kernel_rfl
theorem revetmentref11_Encode_calls {n0_0 : Int} {s0_1 : ByteArray} {w : World} {R : Value → World → Prop} (h : revetmentref11_Encode n0_0 s0_1 w R) : Calls Tryz.prog 26 #[.agg #[.int .u64 n0_0, .string s0_1]] w fun e w1 => ∃ v, e = .returned v ∧ R v w1 := fnP_calls callable Tryz.func26 (revetmentref11_Encode_eq n0_0 s0_1 w R ▸ h)

/-- revetment/revetmentref11.Decode -/
def revetmentref11_Decode (s0 : ByteArray) (w : World) (R : Value → World → Prop) : Prop :=
  Alloc #[.int .u64 0, .string (ByteArray.mk #[])] 38 w fun k2 w1 =>
  (((s0.size : Int) != 64) = true →
  St ⟨k2, 0, none⟩ (.int .u64 0) w1 fun w2 =>
  St ⟨k2, 1, none⟩ (.string (ByteArray.mk #[])) w2 fun w3 =>
  ∃ nr2_0 : Int, ∃ sr2_1 : ByteArray, (w3.cell? ⟨k2, 0, none⟩ = some (.int .u64 nr2_0) ∧ w3.cell? ⟨k2, 1, none⟩ = some (.string sr2_1)) ∧
  R (.tuple #[.agg #[.int .u64 nr2_0, .string sr2_1], .int .i64 31]) w3) ∧
  (((s0.size : Int) != 64) = false →
  Calls Tryz.prog 52 #[.string s0] w1 fun e w4 => ∃ s15_0 : ByteArray, ∃ b15_1 : Bool, e = .returned (.tuple #[.string s15_0, .bool b15_1]) ∧
  ((!b15_1) = true →
  St ⟨k2, 0, none⟩ (.int .u64 0) w4 fun w5 =>
  St ⟨k2, 1, none⟩ (.string (ByteArray.mk #[])) w5 fun w6 =>
  ∃ nr2_0_1 : Int, ∃ sr2_1_1 : ByteArray, (w6.cell? ⟨k2, 0, none⟩ = some (.int .u64 nr2_0_1) ∧ w6.cell? ⟨k2, 1, none⟩ = some (.string sr2_1_1)) ∧
  R (.tuple #[.agg #[.int .u64 nr2_0_1, .string sr2_1_1], .int .i64 80]) w6) ∧
  ((!b15_1) = false →
  ∃ s22 : ByteArray, ∃ w7, (Instr.sliceAt 9 (.string s15_0) none (some (.int .i64 4)) none).run Tryz.prog w4 = .ok (.string s22) w7 ∧
  ((!(s22.toList == (ByteArray.mk #[82, 86, 84, 66]).toList)) = true →
  St ⟨k2, 0, none⟩ (.int .u64 0) w7 fun w8 =>
  St ⟨k2, 1, none⟩ (.string (ByteArray.mk #[])) w8 fun w9 =>
  ∃ nr2_0_2 : Int, ∃ sr2_1_2 : ByteArray, (w9.cell? ⟨k2, 0, none⟩ = some (.int .u64 nr2_0_2) ∧ w9.cell? ⟨k2, 1, none⟩ = some (.string sr2_1_2)) ∧
  R (.tuple #[.agg #[.int .u64 nr2_0_2, .string sr2_1_2], .int .i64 81]) w9) ∧
  ((!(s22.toList == (ByteArray.mk #[82, 86, 84, 66]).toList)) = false →
  LoopP (fun I => I [.int .i64 20] w7) fun K vs w10 => ∃ n6 : Int, vs = [.int .i64 n6] ∧
  ((decide (n6 < (s15_0.size : Int))) = true →
  ∃ n33 : Int, ∃ w11, (Instr.index 9 (.string s15_0) (.int .i64 n6)).run Tryz.prog w10 = .ok (.int .u8 n33) w11 ∧
  ((n33 != 0) = true →
  St ⟨k2, 0, none⟩ (.int .u64 0) w11 fun w12 =>
  St ⟨k2, 1, none⟩ (.string (ByteArray.mk #[])) w12 fun w13 =>
  ∃ nr2_0_3 : Int, ∃ sr2_1_3 : ByteArray, (w13.cell? ⟨k2, 0, none⟩ = some (.int .u64 nr2_0_3) ∧ w13.cell? ⟨k2, 1, none⟩ = some (.string sr2_1_3)) ∧
  R (.tuple #[.agg #[.int .u64 nr2_0_3, .string sr2_1_3], .int .i64 1]) w13) ∧
  ((n33 != 0) = false →
  K [.int .i64 (IntKind.i64.wrap (n6 + 1))] w11)) ∧
  ((decide (n6 < (s15_0.size : Int))) = false →
  ∃ s38 : ByteArray, ∃ w14, (Instr.sliceAt 9 (.string s15_0) (some (.int .i64 4)) (some (.int .i64 12)) none).run Tryz.prog w10 = .ok (.string s38) w14 ∧
  Alloc #[.int .i64 8] 3 w14 fun k39 w15 =>
  Calls Tryz.prog 53 #[.string s38, .slice (some ⟨k39, 0, none⟩) 1 1] w15 fun e_1 w16 => ∃ (p40_0 : Option Addr) (l40_0 c40_0 : Nat), ∃ n40_1 : Int, e_1 = .returned (.tuple #[.slice p40_0 l40_0 c40_0, .int .i64 n40_1]) ∧
  ∃ D : World → Prop, D w16.drew ∧
  ∃ a44 : Addr, p40_0 = some a44 ∧ (0 : Int) ≤ 0 ∧ 0 < (l40_0 : Int) ∧
  ∃ n45 : Int, (∀ w, D w → w.cell? a44 = some (.int .u64 n45)) ∧
  ∃ s47 : ByteArray, (∀ w, D w → (Instr.sliceAt 9 (.string s15_0) (some (.int .i64 12)) (some (.int .i64 20)) none).run Tryz.prog w = .ok (.string s47) w) ∧
  St ⟨k2, 0, none⟩ (.int .u64 n45) w16.drew fun w17 =>
  St ⟨k2, 1, none⟩ (.string s47) w17 fun w18 =>
  D w18 ∧
  ∃ nr2_0_4 : Int, ∃ sr2_1_4 : ByteArray, (w18.cell? ⟨k2, 0, none⟩ = some (.int .u64 nr2_0_4) ∧ w18.cell? ⟨k2, 1, none⟩ = some (.string sr2_1_4)) ∧
  R (.tuple #[.agg #[.int .u64 nr2_0_4, .string sr2_1_4], .int .i64 0]) w18))))
theorem revetmentref11_Decode_eq (s0 : ByteArray) (w : World) (R : Value → World → Prop) : revetmentref11_Decode s0 w R = fnP Tryz.prog Tryz.f37 (.s .o (.s .o (.s .o (.s .o (.s .o (.s (.s .o (.b (.l [(6, .one (.int .i64))] .o))) .o)))))) [.string s0] w R := by kernel_rfl
theorem revetmentref11_Decode_calls {s0 : ByteArray} {w : World} {R : Value → World → Prop} (h : revetmentref11_Decode s0 w R) : Calls Tryz.prog 37 #[.string s0] w fun e w1 => ∃ v, e = .returned v ∧ R v w1 := fnP_calls callable Tryz.func37 (revetmentref11_Decode_eq s0 w R ▸ h)

/-- revetment/revetmentref03.Encode -/
def revetmentref03_Encode (p0 : Option Addr) (l0 c0 : Nat) (p1 : Option Addr) (l1 c1 : Nat) (w : World) (R : Value → World → Prop) : Prop :=
  Calls Tryz.prog 61 #[.slice p1 l1 c1] w fun e w1 => ∃ n13_0 : Int, ∃ n13_1 : Int, e = .returned (.tuple #[.int .i64 n13_0, .int .i64 n13_1]) ∧
  ((n13_1 != 0) = true →
  R (.tuple #[.string (ByteArray.mk #[]), .int .i64 n13_1]) w1) ∧
  ((n13_1 != 0) = false →
  (((l0 : Int) != (l1 : Int)) = true →
  R (.tuple #[.string (ByteArray.mk #[]), .int .i64 1]) w1) ∧
  (((l0 : Int) != (l1 : Int)) = false →
  Alloc #[] 5 w1 fun k24 w2 =>
  LoopP (fun I => I [.slice (some ⟨k24, 0, none⟩) 0 0, .int .i64 0] w2) fun K vs w3 => ∃ (p8 : Option Addr) (l8 c8 : Nat), ∃ n9 : Int, vs = [.slice p8 l8 c8, .int .i64 n9] ∧
  ((decide (n9 < (l0 : Int))) = true →
  ∃ D : World → Prop, D w3.drew ∧
  ∃ a33 : Addr, p0 = some a33 ∧ (0 : Int) ≤ n9 ∧ n9 < (l0 : Int) ∧
  ∃ n34 : Int, (∀ w, D w → w.cell? (Addr.add a33 (n9.toNat * 1)) = some (.int .u64 n34)) ∧
  ∃ a37 : Addr, p1 = some a37 ∧ (0 : Int) ≤ n9 ∧ n9 < (l1 : Int) ∧
  ∃ n38 : Int, (∀ w, D w → w.cell? (Addr.add a37 (n9.toNat * 1)) = some (.int .i64 n38)) ∧
  Calls Tryz.prog 62 #[.int .u64 n34, .int .i64 n38] w3.drew fun e_1 w4 => ∃ b39 : Bool, e_1 = .returned (.bool b39) ∧
  D w4 ∧
  ((!b39) = true →
  R (.tuple #[.string (ByteArray.mk #[]), .int .i64 30]) w4) ∧
  ((!b39) = false →
  LoopP (fun I_1 => I_1 [.slice p8 l8 c8, .int .i64 0] w4) fun K_1 vs_1 w5 => ∃ (p8_1 : Option Addr) (l8_1 c8_1 : Nat), ∃ n10 : Int, vs_1 = [.slice p8_1 l8_1 c8_1, .int .i64 n10] ∧
  ∃ a44 : Addr, p1 = some a44 ∧ (0 : Int) ≤ n9 ∧ n9 < (l1 : Int) ∧
  ∃ n45 : Int, w5.cell? (Addr.add a44 (n9.toNat * 1)) = some (.int .i64 n45) ∧
  ((decide (n10 < n45)) = true →
  ∃ a52 : Addr, p0 = some a52 ∧ (0 : Int) ≤ n9 ∧ n9 < (l0 : Int) ∧
  ∃ n53 : Int, w5.cell? (Addr.add a52 (n9.toNat * 1)) = some (.int .u64 n53) ∧
  (0 : Int) ≤ (IntKind.i64.wrap (8 * n10)) ∧
  Alloc #[.int .u8 (IntKind.u8.wrap (Int.fdiv n53 (2 ^ (min (IntKind.i64.wrap (8 * n10)).toNat 64))))] 5 w5 fun k58 w6 =>
  ∃ (p59 : Option Addr) (l59 c59 : Nat), ∃ w7, (builtin .append #[80, 80] 80 #[false, false] #[.slice p8_1 l8_1 c8_1, .slice (some ⟨k58, 0, none⟩) 1 1]).run Tryz.prog w6 = .ok (.value (.slice p59 l59 c59)) w7 ∧
  K_1 [.slice p59 l59 c59, .int .i64 (IntKind.i64.wrap (n10 + 1))] w7) ∧
  ((decide (n10 < n45)) = false →
  K [.slice p8_1 l8_1 c8_1, .int .i64 (IntKind.i64.wrap (n9 + 1))] w5))) ∧
  ((decide (n9 < (l0 : Int))) = false →
  ∃ s61 : ByteArray, ∃ w8, (convert 80 9 (.slice p8 l8 c8)).run Tryz.prog w3 = .ok (.string s61) w8 ∧
  R (.tuple #[.string s61, .int .i64 0]) w8)))
theorem revetmentref03_Encode_eq (p0 : Option Addr) (l0 c0 : Nat) (p1 : Option Addr) (l1 c1 : Nat) (w : World) (R : Value → World → Prop) : revetmentref03_Encode p0 l0 c0 p1 l1 c1 w R = fnP Tryz.prog Tryz.f43 (.s .o (.s .o (.s .o (.s .o (.s .o (.s (.s .o (.b (.l [(8, .one .slice), (9, .one (.int .i64))] (.s .o (.s (.b (.s .o (.s .o (.b (.l [(8, .one .slice), (10, .one (.int .i64))] .o))))) .o))))) .o)))))) [.slice p0 l0 c0, .slice p1 l1 c1] w R := by kernel_rfl
theorem revetmentref03_Encode_calls {p0 : Option Addr} {l0 c0 : Nat} {p1 : Option Addr} {l1 c1 : Nat} {w : World} {R : Value → World → Prop} (h : revetmentref03_Encode p0 l0 c0 p1 l1 c1 w R) : Calls Tryz.prog 43 #[.slice p0 l0 c0, .slice p1 l1 c1] w fun e w1 => ∃ v, e = .returned v ∧ R v w1 := fnP_calls callable Tryz.func43 (revetmentref03_Encode_eq p0 l0 c0 p1 l1 c1 w R ▸ h)

/-- revetment/revetmentref02.Seal -/
def revetmentref02_Seal (s0 : ByteArray) (n1 : Int) (w : World) (R : Value → World → Prop) : Prop :=
  ((decide (n1 < 4)) = true →
  R (.tuple #[.string (ByteArray.mk #[]), .bool false]) w) ∧
  ((decide (n1 < 4)) = false →
  ((decide (n1 > 4096)) = true →
  R (.tuple #[.string (ByteArray.mk #[]), .bool false]) w) ∧
  ((decide (n1 > 4096)) = false →
  ((decide ((s0.size : Int) > (IntKind.i64.wrap (n1 - 4)))) = true →
  R (.tuple #[.string (ByteArray.mk #[]), .bool false]) w) ∧
  ((decide ((s0.size : Int) > (IntKind.i64.wrap (n1 - 4)))) = false →
  LoopP (fun I => I [.string s0] w) fun K vs w1 => ∃ s6 : ByteArray, vs = [.string s6] ∧
  ((decide ((s6.size : Int) < (IntKind.i64.wrap (n1 - 4)))) = true →
  ((s6.size + (ByteArray.mk #[0]).size : Nat) : Int) ≤ 9223372036854775807 ∧
  K [.string (s6 ++ (ByteArray.mk #[0]))] w1) ∧
  ((decide ((s6.size : Int) < (IntKind.i64.wrap (n1 - 4)))) = false →
  Calls Tryz.prog 64 #[.string s6] w1 fun e w2 => ∃ n30 : Int, e = .returned (.int .u32 n30) ∧
  Calls Tryz.prog 63 #[.int .u32 n30] w2 fun e_1 w3 => ∃ s31 : ByteArray, e_1 = .returned (.string s31) ∧
  ((s6.size + s31.size : Nat) : Int) ≤ 9223372036854775807 ∧
  R (.tuple #[.string (s6 ++ s31), .bool true]) w3))))
theorem revetmentref02_Seal_eq (s0 : ByteArray) (n1 : Int) (w : World) (R : Value → World → Prop) : revetmentref02_Seal s0 n1 w R = fnP Tryz.prog Tryz.f44 (.s .o (.s .o (.s .o (.s (.b (.l [(6, .one .str)] .o)) .o)))) [.string s0, .int .i64 n1] w R := by kernel_rfl
theorem revetmentref02_Seal_calls {s0 : ByteArray} {n1 : Int} {w : World} {R : Value → World → Prop} (h : revetmentref02_Seal s0 n1 w R) : Calls Tryz.prog 44 #[.string s0, .int .i64 n1] w fun e w1 => ∃ v, e = .returned v ∧ R v w1 := fnP_calls callable Tryz.func44 (revetmentref02_Seal_eq s0 n1 w R ▸ h)

/-- revetment/revetmentref02.Open -/
def revetmentref02_Open (s0 : ByteArray) (w : World) (R : Value → World → Prop) : Prop :=
  ((decide ((s0.size : Int) < 4)) = true →
  R (.tuple #[.string (ByteArray.mk #[]), .bool false]) w) ∧
  ((decide ((s0.size : Int) < 4)) = false →
  ∃ s12 : ByteArray, ∃ w1, (Instr.sliceAt 9 (.string s0) none (some (.int .i64 (IntKind.i64.wrap ((s0.size : Int) - 4)))) none).run Tryz.prog w = .ok (.string s12) w1 ∧
  ∃ D : World → Prop, D w1.drew ∧
  ∃ s17 : ByteArray, (∀ w, D w → (Instr.sliceAt 9 (.string s0) (some (.int .i64 (IntKind.i64.wrap ((s0.size : Int) - 4)))) none none).run Tryz.prog w = .ok (.string s17) w) ∧
  Calls Tryz.prog 64 #[.string s12] w1.drew fun e w2 => ∃ n19 : Int, e = .returned (.int .u32 n19) ∧
  D w2 ∧
  Calls Tryz.prog 63 #[.int .u32 n19] w2 fun e_1 w3 => ∃ s20 : ByteArray, e_1 = .returned (.string s20) ∧
  D w3 ∧
  ((!(s17.toList == s20.toList)) = true →
  R (.tuple #[.string (ByteArray.mk #[]), .bool false]) w3) ∧
  ((!(s17.toList == s20.toList)) = false →
  R (.tuple #[.string s12, .bool true]) w3))
theorem revetmentref02_Open_eq (s0 : ByteArray) (w : World) (R : Value → World → Prop) : revetmentref02_Open s0 w R = fnP Tryz.prog Tryz.f52 .o [.string s0] w R := by kernel_rfl
theorem revetmentref02_Open_calls {s0 : ByteArray} {w : World} {R : Value → World → Prop} (h : revetmentref02_Open s0 w R) : Calls Tryz.prog 52 #[.string s0] w fun e w1 => ∃ v, e = .returned v ∧ R v w1 := fnP_calls callable Tryz.func52 (revetmentref02_Open_eq s0 w R ▸ h)

/-- revetment/revetmentref03.Decode -/
def revetmentref03_Decode (s0 : ByteArray) (p1 : Option Addr) (l1 c1 : Nat) (w : World) (R : Value → World → Prop) : Prop :=
  Calls Tryz.prog 61 #[.slice p1 l1 c1] w fun e w1 => ∃ n15_0 : Int, ∃ n15_1 : Int, e = .returned (.tuple #[.int .i64 n15_0, .int .i64 n15_1]) ∧
  ((n15_1 != 0) = true →
  R (.tuple #[.slice none 0 0, .int .i64 n15_1]) w1) ∧
  ((n15_1 != 0) = false →
  (((s0.size : Int) != n15_0) = true →
  R (.tuple #[.slice none 0 0, .int .i64 31]) w1) ∧
  (((s0.size : Int) != n15_0) = false →
  Alloc #[] 23 w1 fun k25 w2 =>
  LoopP (fun I => I [.slice (some ⟨k25, 0, none⟩) 0 0, .int .i64 0, .int .i64 0] w2) fun K vs w3 => ∃ (p8 : Option Addr) (l8 c8 : Nat), ∃ n9 : Int, ∃ n10 : Int, vs = [.slice p8 l8 c8, .int .i64 n9, .int .i64 n10] ∧
  ((decide (n10 < (l1 : Int))) = true →
  LoopP (fun I_1 => I_1 [.int .u64 0, .int .i64 0] w3) fun K_1 vs_1 w4 => ∃ n11 : Int, ∃ n12 : Int, vs_1 = [.int .u64 n11, .int .i64 n12] ∧
  ∃ a35 : Addr, p1 = some a35 ∧ (0 : Int) ≤ n10 ∧ n10 < (l1 : Int) ∧
  ∃ n36 : Int, w4.cell? (Addr.add a35 (n10.toNat * 1)) = some (.int .i64 n36) ∧
  ((decide (n12 < n36)) = true →
  ∃ n45 : Int, ∃ w5, (Instr.index 9 (.string s0) (.int .i64 (IntKind.i64.wrap (n9 + n12)))).run Tryz.prog w4 = .ok (.int .u8 n45) w5 ∧
  (0 : Int) ≤ (IntKind.i64.wrap (8 * n12)) ∧
  K_1 [.int .u64 (bits2 .or .u64 n11 (IntKind.u64.wrap ((IntKind.u64.wrap n45) * 2 ^ (min (IntKind.i64.wrap (8 * n12)).toNat 64)))), .int .i64 (IntKind.i64.wrap (n12 + 1))] w5) ∧
  ((decide (n12 < n36)) = false →
  Alloc #[.int .u64 n11] 23 w4 fun k53 w6 =>
  ∃ (p54 : Option Addr) (l54 c54 : Nat), ∃ w7, (builtin .append #[82, 82] 82 #[false, false] #[.slice p8 l8 c8, .slice (some ⟨k53, 0, none⟩) 1 1]).run Tryz.prog w6 = .ok (.value (.slice p54 l54 c54)) w7 ∧
  ∃ a58 : Addr, p1 = some a58 ∧ (0 : Int) ≤ n10 ∧ n10 < (l1 : Int) ∧
  ∃ n59 : Int, w7.cell? (Addr.add a58 (n10.toNat * 1)) = some (.int .i64 n59) ∧
  K [.slice p54 l54 c54, .int .i64 (IntKind.i64.wrap (n9 + n59)), .int .i64 (IntKind.i64.wrap (n10 + 1))] w7)) ∧
  ((decide (n10 < (l1 : Int))) = false →
  R (.tuple #[.slice p8 l8 c8, .int .i64 0]) w3)))
theorem revetmentref03_Decode_eq (s0 : ByteArray) (p1 : Option Addr) (l1 c1 : Nat) (w : World) (R : Value → World → Prop) : revetmentref03_Decode s0 p1 l1 c1 w R = fnP Tryz.prog Tryz.f53 (.s .o (.s .o (.s .o (.s .o (.s .o (.s .o (.s (.s .o (.b (.l [(8, .one .slice), (9, .one (.int .i64)), (10, .one (.int .i64))] (.s .o (.s (.b (.s .o (.s (.s .o (.b (.l [(11, .one (.int .u64)), (12, .one (.int .i64))] .o))) .o))) .o))))) .o))))))) [.string s0, .slice p1 l1 c1] w R := by kernel_rfl
theorem revetmentref03_Decode_calls {s0 : ByteArray} {p1 : Option Addr} {l1 c1 : Nat} {w : World} {R : Value → World → Prop} (h : revetmentref03_Decode s0 p1 l1 c1 w R) : Calls Tryz.prog 53 #[.string s0, .slice p1 l1 c1] w fun e w1 => ∃ v, e = .returned v ∧ R v w1 := fnP_calls callable Tryz.func53 (revetmentref03_Decode_eq s0 p1 l1 c1 w R ▸ h)

/-- revetment/revetmentref03.Size -/
def revetmentref03_Size (p0 : Option Addr) (l0 c0 : Nat) (w : World) (R : Value → World → Prop) : Prop :=
  ((decide ((l0 : Int) > 64)) = true →
  R (.tuple #[.int .i64 0, .int .i64 1]) w) ∧
  ((decide ((l0 : Int) > 64)) = false →
  LoopP (fun I => I [.int .i64 0, .int .i64 0] w) fun K vs w1 => ∃ n4 : Int, ∃ n5 : Int, vs = [.int .i64 n4, .int .i64 n5] ∧
  ((decide (n5 < (l0 : Int))) = true →
  ∃ a17 : Addr, p0 = some a17 ∧ (0 : Int) ≤ n5 ∧ n5 < (l0 : Int) ∧
  ∃ n18 : Int, w1.cell? (Addr.add a17 (n5.toNat * 1)) = some (.int .i64 n18) ∧
  ((decide (n18 < 1)) = true →
  R (.tuple #[.int .i64 0, .int .i64 1]) w1) ∧
  ((decide (n18 < 1)) = false →
  ∃ a23 : Addr, p0 = some a23 ∧ (0 : Int) ≤ n5 ∧ n5 < (l0 : Int) ∧
  ∃ n24 : Int, w1.cell? (Addr.add a23 (n5.toNat * 1)) = some (.int .i64 n24) ∧
  ((decide (n24 > 8)) = true →
  R (.tuple #[.int .i64 0, .int .i64 1]) w1) ∧
  ((decide (n24 > 8)) = false →
  ∃ a30 : Addr, p0 = some a30 ∧ (0 : Int) ≤ n5 ∧ n5 < (l0 : Int) ∧
  ∃ n31 : Int, w1.cell? (Addr.add a30 (n5.toNat * 1)) = some (.int .i64 n31) ∧
  K [.int .i64 (IntKind.i64.wrap (n4 + n31)), .int .i64 (IntKind.i64.wrap (n5 + 1))] w1))) ∧
  ((decide (n5 < (l0 : Int))) = false →
  R (.tuple #[.int .i64 n4, .int .i64 0]) w1))
theorem revetmentref03_Size_eq (p0 : Option Addr) (l0 c0 : Nat) (w : World) (R : Value → World → Prop) : revetmentref03_Size p0 l0 c0 w R = fnP Tryz.prog Tryz.f61 (.s .o (.s .o (.s .o (.s (.s .o (.b (.l [(4, .one (.int .i64)), (5, .one (.int .i64))] .o))) .o)))) [.slice p0 l0 c0] w R := by kernel_rfl
theorem revetmentref03_Size_calls {p0 : Option Addr} {l0 c0 : Nat} {w : World} {R : Value → World → Prop} (h : revetmentref03_Size p0 l0 c0 w R) : Calls Tryz.prog 61 #[.slice p0 l0 c0] w fun e w1 => ∃ v, e = .returned v ∧ R v w1 := fnP_calls callable Tryz.func61 (revetmentref03_Size_eq p0 l0 c0 w R ▸ h)

/-- revetment/revetmentref03.Fits -/
def revetmentref03_Fits (n0 : Int) (n1 : Int) (w : World) (R : Value → World → Prop) : Prop :=
  ((decide (n1 < 1)) = true →
  R (.bool false) w) ∧
  ((decide (n1 < 1)) = false →
  ((decide (n1 > 8)) = true →
  R (.bool false) w) ∧
  ((decide (n1 > 8)) = false →
  LoopP (fun I => I [.int .u64 n0, .int .i64 0] w) fun K vs w1 => ∃ n0_1 : Int, ∃ n5 : Int, vs = [.int .u64 n0_1, .int .i64 n5] ∧
  ((decide (n5 < n1)) = true →
  K [.int .u64 (Int.fdiv n0_1 (2 ^ 8)), .int .i64 (IntKind.i64.wrap (n5 + 1))] w1) ∧
  ((decide (n5 < n1)) = false →
  R (.bool (n0_1 == 0)) w1)))
theorem revetmentref03_Fits_eq (n0 : Int) (n1 : Int) (w : World) (R : Value → World → Prop) : revetmentref03_Fits n0 n1 w R = fnP Tryz.prog Tryz.f62 (.s .o (.s .o (.s (.s .o (.b (.l [(0, .one (.int .u64)), (5, .one (.int .i64))] .o))) .o))) [.int .u64 n0, .int .i64 n1] w R := by kernel_rfl
theorem revetmentref03_Fits_calls {n0 : Int} {n1 : Int} {w : World} {R : Value → World → Prop} (h : revetmentref03_Fits n0 n1 w R) : Calls Tryz.prog 62 #[.int .u64 n0, .int .i64 n1] w fun e w1 => ∃ v, e = .returned v ∧ R v w1 := fnP_calls callable Tryz.func62 (revetmentref03_Fits_eq n0 n1 w R ▸ h)

/-- revetment/revetmentref02.four -/
def revetmentref02_four (n0 : Int) (w : World) (R : Value → World → Prop) : Prop :=
  Alloc #[.int .u8 (IntKind.u8.wrap n0), .int .u8 (IntKind.u8.wrap (Int.fdiv n0 (2 ^ 8))), .int .u8 (IntKind.u8.wrap (Int.fdiv n0 (2 ^ 16))), .int .u8 (IntKind.u8.wrap (Int.fdiv n0 (2 ^ 24)))] 5 w fun k14 w1 =>
  ∃ s15 : ByteArray, ∃ w2, (convert 80 9 (.slice (some ⟨k14, 0, none⟩) 4 4)).run Tryz.prog w1 = .ok (.string s15) w2 ∧
  R (.string s15) w2
theorem revetmentref02_four_eq (n0 : Int) (w : World) (R : Value → World → Prop) : revetmentref02_four n0 w R = fnP Tryz.prog Tryz.f63 .o [.int .u32 n0] w R := by kernel_rfl
theorem revetmentref02_four_calls {n0 : Int} {w : World} {R : Value → World → Prop} (h : revetmentref02_four n0 w R) : Calls Tryz.prog 63 #[.int .u32 n0] w fun e w1 => ∃ v, e = .returned v ∧ R v w1 := fnP_calls callable Tryz.func63 (revetmentref02_four_eq n0 w R ▸ h)

/-- revetment/revetmentref02.Sum -/
def revetmentref02_Sum (s0 : ByteArray) (w : World) (R : Value → World → Prop) : Prop :=
  Calls Tryz.prog 78 #[.int .u32 0, .string s0] w fun e w1 => ∃ n4 : Int, e = .returned (.int .u32 n4) ∧
  R (.int .u32 n4) w1
theorem revetmentref02_Sum_eq (s0 : ByteArray) (w : World) (R : Value → World → Prop) : revetmentref02_Sum s0 w R = fnP Tryz.prog Tryz.f64 .o [.string s0] w R := by kernel_rfl
theorem revetmentref02_Sum_calls {s0 : ByteArray} {w : World} {R : Value → World → Prop} (h : revetmentref02_Sum s0 w R) : Calls Tryz.prog 64 #[.string s0] w fun e w1 => ∃ v, e = .returned v ∧ R v w1 := fnP_calls callable Tryz.func64 (revetmentref02_Sum_eq s0 w R ▸ h)

/-- revetment/revetmentref02.More -/
def revetmentref02_More (n0 : Int) (s1 : ByteArray) (w : World) (R : Value → World → Prop) : Prop :=
  LoopP (fun I => I [.int .u32 (bits2 .xor .u32 IntKind.u32.max n0), .int .i64 0] w) fun K vs w1 => ∃ n5 : Int, ∃ n6 : Int, vs = [.int .u32 n5, .int .i64 n6] ∧
  ((decide (n6 < (s1.size : Int))) = true →
  ∃ n20 : Int, ∃ w2, (Instr.index 9 (.string s1) (.int .i64 n6)).run Tryz.prog w1 = .ok (.int .u8 n20) w2 ∧
  LoopP (fun I_1 => I_1 [.int .u32 (bits2 .xor .u32 n5 (IntKind.u32.wrap n20)), .int .i64 0] w2) fun K_1 vs_1 w3 => ∃ n5_1 : Int, ∃ n7 : Int, vs_1 = [.int .u32 n5_1, .int .i64 n7] ∧
  ((decide (n7 < 8)) = true →
  (((bits2 .and .u32 n5_1 1) == 1) = true →
  K_1 [.int .u32 (bits2 .xor .u32 (Int.fdiv n5_1 (2 ^ 1)) 2197175160), .int .i64 (IntKind.i64.wrap (n7 + 1))] w3) ∧
  (((bits2 .and .u32 n5_1 1) == 1) = false →
  K_1 [.int .u32 (Int.fdiv n5_1 (2 ^ 1)), .int .i64 (IntKind.i64.wrap (n7 + 1))] w3)) ∧
  ((decide (n7 < 8)) = false →
  K [.int .u32 n5_1, .int .i64 (IntKind.i64.wrap (n6 + 1))] w3)) ∧
  ((decide (n6 < (s1.size : Int))) = false →
  R (.int .u32 (bits2 .xor .u32 IntKind.u32.max n5)) w1)
theorem revetmentref02_More_eq (n0 : Int) (s1 : ByteArray) (w : World) (R : Value → World → Prop) : revetmentref02_More n0 s1 w R = fnP Tryz.prog Tryz.f78 (.s .o (.s .o (.s (.s .o (.b (.l [(5, .one (.int .u32)), (6, .one (.int .i64))] (.s .o (.s (.b (.s .o (.s .o (.b (.l [(5, .one (.int .u32)), (7, .one (.int .i64))] .o))))) .o))))) .o))) [.int .u32 n0, .string s1] w R := by kernel_rfl
theorem revetmentref02_More_calls {n0 : Int} {s1 : ByteArray} {w : World} {R : Value → World → Prop} (h : revetmentref02_More n0 s1 w R) : Calls Tryz.prog 78 #[.int .u32 n0, .string s1] w fun e w1 => ∃ v, e = .returned v ∧ R v w1 := fnP_calls callable Tryz.func78 (revetmentref02_More_eq n0 s1 w R ▸ h)

end Go.Proofs.YtmipjkalfodcpaaGreatDoor
