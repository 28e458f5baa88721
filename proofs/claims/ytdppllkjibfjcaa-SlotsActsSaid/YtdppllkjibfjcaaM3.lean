import Derived.Test.YtdppllkjibfjcaaM2
/-! The formulas of Go functions, printed by a program of this session (shprint.py), each tied to the loaded function by the kernel. -/
namespace Go.Proofs.Ytdppllkjibfjcaa
open Go.Sh
set_option linter.unusedVariables false
set_option maxRecDepth 100000
/-- revetment/revetmentlaw04.DriveKeeps -/
def revetmentlaw04_DriveKeeps (p0 : Option Addr) (l0 c0 : Nat) (b1 : Bool) (w : World) (R : Value → World → Prop) : Prop :=
  ((decide ((l0 : Int) > 60)) = true →
  Calls Try.prog 12 #[] w fun e w1 => ∃ b18 : Bool, e = .returned (.bool b18) ∧
  R (.bool b18) w1) ∧
  ((decide ((l0 : Int) > 60)) = false →
  Calls Try.prog 12 #[] w fun e_1 w2 => ∃ b15 : Bool, e_1 = .returned (.bool b15) ∧
  ((!b15) = true →
  Calls Try.prog 12 #[] w2 fun e_2 w3 => ∃ b18_1 : Bool, e_2 = .returned (.bool b18_1) ∧
  R (.bool b18_1) w3) ∧
  ((!b15) = false →
  Calls Try.prog 13 #[.int .i64 1] w2 fun e_3 w4 => ∃ p19 : Option Addr, e_3 = .returned (.pointer p19) ∧
  ((Option.isNone p19) = true →
  R (.bool false) w4) ∧
  ((Option.isNone p19) = false →
  Calls Try.prog 15 #[.string (ByteArray.mk #[102, 105, 114, 115, 116])] w4 fun e_4 w5 => ∃ s24 : ByteArray, e_4 = .returned (.string s24) ∧
  Calls Try.prog 14 #[.pointer p19, .int .i64 0, .string s24] w5 fun e_5 w6 => ∃ n25 : Int, e_5 = .returned (.int .i64 n25) ∧
  ((n25 != 0) = true →
  R (.bool false) w6) ∧
  ((n25 != 0) = false →
  Calls Try.prog 16 #[.pointer p19] w6 fun e_6 w7 => ∃ n30 : Int, e_6 = .returned (.int .i64 n30) ∧
  ((n30 != 0) = true →
  R (.bool false) w7) ∧
  ((n30 != 0) = false →
  LoopP (fun I => I [.int .i64 0] w7) fun K vs w8 => ∃ n6 : Int, vs = [.int .i64 n6] ∧
  ((decide (n6 < (l0 : Int))) = true →
  ∃ a41 : Addr, p0 = some a41 ∧ (0 : Int) ≤ n6 ∧ n6 < (l0 : Int) ∧
  ∃ s42 : ByteArray, w8.cell? (Addr.add a41 (n6.toNat * 1)) = some (.string s42) ∧
  ((decide ((s42.size : Int) > 100)) = true →
  Calls Try.prog 12 #[] w8 fun e_7 w9 => ∃ b45 : Bool, e_7 = .returned (.bool b45) ∧
  R (.bool b45) w9) ∧
  ((decide ((s42.size : Int) > 100)) = false →
  ∃ a49 : Addr, p0 = some a49 ∧ (0 : Int) ≤ n6 ∧ n6 < (l0 : Int) ∧
  ∃ s50 : ByteArray, w8.cell? (Addr.add a49 (n6.toNat * 1)) = some (.string s50) ∧
  Calls Try.prog 15 #[.string s50] w8 fun e_8 w10 => ∃ s51 : ByteArray, e_8 = .returned (.string s51) ∧
  Calls Try.prog 14 #[.pointer p19, .int .i64 0, .string s51] w10 fun e_9 w11 => ∃ n52 : Int, e_9 = .returned (.int .i64 n52) ∧
  K [.int .i64 (IntKind.i64.wrap (n6 + 1))] w11)) ∧
  ((decide (n6 < (l0 : Int))) = false →
  Alloc #[] 5 w8 fun k53 w12 =>
  Calls Try.prog 15 #[.string (ByteArray.mk #[102, 105, 114, 115, 116])] w12 fun e_10 w13 => ∃ s54 : ByteArray, e_10 = .returned (.string s54) ∧
  Join (fun vs_1 w14 => ∃ (p7 : Option Addr) (l7 c7 : Nat), ∃ s8 : ByteArray, vs_1 = [.slice p7 l7 c7, .string s8] ∧
  Calls Try.prog 17 #[.pointer p19, .slice p7 l7 c7] w14 fun e_11 w15 => e_11 = .returned (.tuple #[]) ∧
  Calls Try.prog 18 #[.pointer p19, .int .i64 0] w15 fun e_12 w16 => ∃ s79_0 : ByteArray, ∃ n79_1 : Int, e_12 = .returned (.tuple #[.string s79_0, .int .i64 n79_1]) ∧
  ((n79_1 == 0) = true →
  ((s79_0.toList == s8.toList) = true →
  Calls Try.prog 19 #[.pointer p19] w16 fun e_13 w17 => ∃ n91 : Int, e_13 = .returned (.int .i64 n91) ∧
  R (.bool (n91 == 0)) w17) ∧
  ((s79_0.toList == s8.toList) = false →
  R (.bool false) w16)) ∧
  ((n79_1 == 0) = false →
  R (.bool false) w16)) fun J =>
  (b1 = true →
  ((decide ((l0 : Int) > 0)) = true →
  Alloc #[.int .u8 (IntKind.u8.wrap (l0 : Int))] 5 w13 fun k65 w18 =>
  ∃ (p66 : Option Addr) (l66 c66 : Nat), ∃ w19, (builtin .append #[30, 30] 30 #[false, false] #[.slice (some ⟨k53, 0, none⟩) 0 0, .slice (some ⟨k65, 0, none⟩) 1 1]).run Try.prog w18 = .ok (.value (.slice p66 l66 c66)) w19 ∧
  ∃ a71 : Addr, p0 = some a71 ∧ (0 : Int) ≤ IntKind.i64.wrap ((l0 : Int) - 1) ∧ (IntKind.i64.wrap ((l0 : Int) - 1)) < (l0 : Int) ∧
  ∃ s72 : ByteArray, w19.cell? (Addr.add a71 ((IntKind.i64.wrap ((l0 : Int) - 1)).toNat * 1)) = some (.string s72) ∧
  Calls Try.prog 15 #[.string s72] w19 fun e_14 w20 => ∃ s73 : ByteArray, e_14 = .returned (.string s73) ∧
  J [.slice p66 l66 c66, .string s73] w20) ∧
  ((decide ((l0 : Int) > 0)) = false →
  J [.slice (some ⟨k53, 0, none⟩) 0 0, .string s54] w13)) ∧
  (b1 = false →
  J [.slice (some ⟨k53, 0, none⟩) 0 0, .string s54] w13)))))))
theorem revetmentlaw04_DriveKeeps_eq (p0 : Option Addr) (l0 c0 : Nat) (b1 : Bool) (w : World) (R : Value → World → Prop) : revetmentlaw04_DriveKeeps p0 l0 c0 b1 w R = fnP Try.prog Try.f3 (.s .o (.s .o (.s .o (.s .o (.s (.s .o (.b (.l [(6, .one (.int .i64))] .o))) (.s .o (.s .o (.j [(7, .one .slice), (8, .one .str)] .o .o)))))))) [.slice p0 l0 c0, .bool b1] w R := by kernel_rfl
theorem revetmentlaw04_DriveKeeps_calls {p0 : Option Addr} {l0 c0 : Nat} {b1 : Bool} {w : World} {R : Value → World → Prop} (h : revetmentlaw04_DriveKeeps p0 l0 c0 b1 w R) : Calls Try.prog 3 #[.slice p0 l0 c0, .bool b1] w fun e w1 => ∃ v, e = .returned v ∧ R v w1 := fnP_calls callable Try.func3 (revetmentlaw04_DriveKeeps_eq p0 l0 c0 b1 w R ▸ h)

/-- revetment/revetmentlaw04.DriveOff -/
def revetmentlaw04_DriveOff (p0 : Option Addr) (l0 c0 : Nat) (n1 : Int) (p2 : Option Addr) (l2 c2 : Nat) (w : World) (R : Value → World → Prop) : Prop :=
  ((decide ((l0 : Int) > 60)) = true →
  Calls Try.prog 12 #[] w fun e w1 => ∃ b30 : Bool, e = .returned (.bool b30) ∧
  R (.bool b30) w1) ∧
  ((decide ((l0 : Int) > 60)) = false →
  ((decide ((l2 : Int) > 50)) = true →
  Calls Try.prog 12 #[] w fun e_1 w2 => ∃ b30_1 : Bool, e_1 = .returned (.bool b30_1) ∧
  R (.bool b30_1) w2) ∧
  ((decide ((l2 : Int) > 50)) = false →
  Calls Try.prog 12 #[] w fun e_2 w3 => ∃ b27 : Bool, e_2 = .returned (.bool b27) ∧
  ((!b27) = true →
  Calls Try.prog 12 #[] w3 fun e_3 w4 => ∃ b30_2 : Bool, e_3 = .returned (.bool b30_2) ∧
  R (.bool b30_2) w4) ∧
  ((!b27) = false →
  Calls Try.prog 13 #[.int .i64 1] w3 fun e_4 w5 => ∃ p31 : Option Addr, e_4 = .returned (.pointer p31) ∧
  ((Option.isNone p31) = true →
  R (.bool false) w5) ∧
  ((Option.isNone p31) = false →
  Calls Try.prog 15 #[.string (ByteArray.mk #[102, 105, 114, 115, 116])] w5 fun e_5 w6 => ∃ s36 : ByteArray, e_5 = .returned (.string s36) ∧
  Calls Try.prog 14 #[.pointer p31, .int .i64 0, .string s36] w6 fun e_6 w7 => ∃ n37 : Int, e_6 = .returned (.int .i64 n37) ∧
  ((n37 != 0) = true →
  R (.bool false) w7) ∧
  ((n37 != 0) = false →
  Calls Try.prog 16 #[.pointer p31] w7 fun e_7 w8 => ∃ n42 : Int, e_7 = .returned (.int .i64 n42) ∧
  ((n42 != 0) = true →
  R (.bool false) w8) ∧
  ((n42 != 0) = false →
  Calls Try.prog 20 #[.pointer p31, .int .i64 (Int.tmod (IntKind.i64.wrap n1) 70)] w8 fun e_8 w9 => e_8 = .returned (.tuple #[]) ∧
  ∃ n54 : Int, ∃ w10, (builtin .min #[3, 3] 3 #[false, false] #[.int .i64 (Int.tmod (IntKind.i64.wrap n1) 70), .int .i64 (l0 : Int)]).run Try.prog w9 = .ok (.value (.int .i64 n54)) w10 ∧
  LoopP (fun I => I [.int .i64 0] w10) fun K vs w11 => ∃ n10 : Int, vs = [.int .i64 n10] ∧
  ((decide (n10 < (l0 : Int))) = true →
  ∃ a63 : Addr, p0 = some a63 ∧ (0 : Int) ≤ n10 ∧ n10 < (l0 : Int) ∧
  ∃ s64 : ByteArray, w11.cell? (Addr.add a63 (n10.toNat * 1)) = some (.string s64) ∧
  ((decide ((s64.size : Int) > 100)) = true →
  Calls Try.prog 12 #[] w11 fun e_9 w12 => ∃ b67 : Bool, e_9 = .returned (.bool b67) ∧
  R (.bool b67) w12) ∧
  ((decide ((s64.size : Int) > 100)) = false →
  ∃ a71 : Addr, p0 = some a71 ∧ (0 : Int) ≤ n10 ∧ n10 < (l0 : Int) ∧
  ∃ s72 : ByteArray, w11.cell? (Addr.add a71 (n10.toNat * 1)) = some (.string s72) ∧
  Calls Try.prog 15 #[.string s72] w11 fun e_10 w13 => ∃ s73 : ByteArray, e_10 = .returned (.string s73) ∧
  Calls Try.prog 14 #[.pointer p31, .int .i64 0, .string s73] w13 fun e_11 w14 => ∃ n74 : Int, e_11 = .returned (.int .i64 n74) ∧
  ((!((n74 == 0) == (decide (n10 < (Int.tmod (IntKind.i64.wrap n1) 70))))) = true →
  R (.bool false) w14) ∧
  ((!((n74 == 0) == (decide (n10 < (Int.tmod (IntKind.i64.wrap n1) 70))))) = false →
  ((n74 != 0) = true →
  ((n74 != 42) = true →
  R (.bool false) w14) ∧
  ((n74 != 42) = false →
  K [.int .i64 (IntKind.i64.wrap (n10 + 1))] w14)) ∧
  ((n74 != 0) = false →
  K [.int .i64 (IntKind.i64.wrap (n10 + 1))] w14)))) ∧
  ((decide (n10 < (l0 : Int))) = false →
  Calls Try.prog 18 #[.pointer p31, .int .i64 0] w11 fun e_12 w15 => ∃ s91_0 : ByteArray, ∃ n91_1 : Int, e_12 = .returned (.tuple #[.string s91_0, .int .i64 n91_1]) ∧
  ((!((n91_1 == 42) == (decide ((Int.tmod (IntKind.i64.wrap n1) 70) ≤ (l0 : Int))))) = true →
  R (.bool false) w15) ∧
  ((!((n91_1 == 42) == (decide ((Int.tmod (IntKind.i64.wrap n1) 70) ≤ (l0 : Int))))) = false →
  Calls Try.prog 19 #[.pointer p31] w15 fun e_13 w16 => ∃ n103 : Int, e_13 = .returned (.int .i64 n103) ∧
  ((n103 != n54) = true →
  R (.bool false) w16) ∧
  ((n103 != n54) = false →
  Calls Try.prog 17 #[.pointer p31, .slice p2 l2 c2] w16 fun e_14 w17 => e_14 = .returned (.tuple #[]) ∧
  Calls Try.prog 18 #[.pointer p31, .int .i64 0] w17 fun e_15 w18 => ∃ s112_0 : ByteArray, ∃ n112_1 : Int, e_15 = .returned (.tuple #[.string s112_0, .int .i64 n112_1]) ∧
  Join (fun vs_1 w19 => ∃ n16 : Int, vs_1 = [.int .i64 n16] ∧
  Calls Try.prog 15 #[.string (ByteArray.mk #[102, 105, 114, 115, 116])] w19 fun e_16 w20 => ∃ s125 : ByteArray, e_16 = .returned (.string s125) ∧
  Join (fun vs_2 w21 => ∃ s17 : ByteArray, vs_2 = [.string s17] ∧
  ((n112_1 == 0) = true →
  ((s112_0.toList == s17.toList) = true →
  Calls Try.prog 15 #[.string (ByteArray.mk #[])] w21 fun e_17 w22 => ∃ s143 : ByteArray, e_17 = .returned (.string s143) ∧
  Calls Try.prog 14 #[.pointer p31, .int .i64 0, .string s143] w22 fun e_18 w23 => ∃ n144 : Int, e_18 = .returned (.int .i64 n144) ∧
  R (.bool (n144 == 0)) w23) ∧
  ((s112_0.toList == s17.toList) = false →
  R (.bool false) w21)) ∧
  ((n112_1 == 0) = false →
  R (.bool false) w21)) fun J_1 =>
  ((decide (n16 > 0)) = true →
  ∃ a131 : Addr, p0 = some a131 ∧ (0 : Int) ≤ IntKind.i64.wrap (n16 - 1) ∧ (IntKind.i64.wrap (n16 - 1)) < (l0 : Int) ∧
  ∃ s132 : ByteArray, w20.cell? (Addr.add a131 ((IntKind.i64.wrap (n16 - 1)).toNat * 1)) = some (.string s132) ∧
  Calls Try.prog 15 #[.string s132] w20 fun e_19 w24 => ∃ s133 : ByteArray, e_19 = .returned (.string s133) ∧
  J_1 [.string s133] w24) ∧
  ((decide (n16 > 0)) = false →
  J_1 [.string s125] w20)) fun J =>
  ((decide ((l2 : Int) > 0)) = true →
  ∃ a119 : Addr, p2 = some a119 ∧ (0 : Int) ≤ 0 ∧ 0 < (l2 : Int) ∧
  ∃ n120 : Int, w18.cell? a119 = some (.int .u8 n120) ∧
  (IntKind.i64.wrap (n54 + 1)) ≠ 0 ∧
  J [.int .i64 (Int.tmod (IntKind.i64.wrap n120) (IntKind.i64.wrap (n54 + 1)))] w18) ∧
  ((decide ((l2 : Int) > 0)) = false →
  J [.int .i64 0] w18))))))))))
theorem revetmentlaw04_DriveOff_eq (p0 : Option Addr) (l0 c0 : Nat) (n1 : Int) (p2 : Option Addr) (l2 c2 : Nat) (w : World) (R : Value → World → Prop) : revetmentlaw04_DriveOff p0 l0 c0 n1 p2 l2 c2 w R = fnP Try.prog Try.f4 (.s .o (.s .o (.s .o (.s .o (.s .o (.s .o (.s .o (.s (.s .o (.b (.l [(10, .one (.int .i64))] .o))) (.s .o (.s .o (.s .o (.s .o (.s .o (.j [(16, .one (.int .i64))] .o (.s .o (.j [(17, .one .str)] .o .o)))))))))))))))) [.slice p0 l0 c0, .int .u8 n1, .slice p2 l2 c2] w R := by kernel_rfl
theorem revetmentlaw04_DriveOff_calls {p0 : Option Addr} {l0 c0 : Nat} {n1 : Int} {p2 : Option Addr} {l2 c2 : Nat} {w : World} {R : Value → World → Prop} (h : revetmentlaw04_DriveOff p0 l0 c0 n1 p2 l2 c2 w R) : Calls Try.prog 4 #[.slice p0 l0 c0, .int .u8 n1, .slice p2 l2 c2] w fun e w1 => ∃ v, e = .returned v ∧ R v w1 := fnP_calls callable Try.func4 (revetmentlaw04_DriveOff_eq p0 l0 c0 n1 p2 l2 c2 w R ▸ h)

/-- revetment/revetmentlaw04.DriveSpoils -/
def revetmentlaw04_DriveSpoils (s0 : ByteArray) (s1 : ByteArray) (n2 : Int) (w : World) (R : Value → World → Prop) : Prop :=
  ((decide ((s0.size : Int) > 100)) = true →
  Calls Try.prog 12 #[] w fun e w1 => ∃ b32 : Bool, e = .returned (.bool b32) ∧
  R (.bool b32) w1) ∧
  ((decide ((s0.size : Int) > 100)) = false →
  ((decide ((s1.size : Int) > 100)) = true →
  Calls Try.prog 12 #[] w fun e_1 w2 => ∃ b32_1 : Bool, e_1 = .returned (.bool b32_1) ∧
  R (.bool b32_1) w2) ∧
  ((decide ((s1.size : Int) > 100)) = false →
  Calls Try.prog 12 #[] w fun e_2 w3 => ∃ b29 : Bool, e_2 = .returned (.bool b29) ∧
  ((!b29) = true →
  Calls Try.prog 12 #[] w3 fun e_3 w4 => ∃ b32_2 : Bool, e_3 = .returned (.bool b32_2) ∧
  R (.bool b32_2) w4) ∧
  ((!b29) = false →
  Calls Try.prog 13 #[.int .i64 5] w3 fun e_4 w5 => ∃ p33 : Option Addr, e_4 = .returned (.pointer p33) ∧
  ((Option.isNone p33) = true →
  R (.bool false) w5) ∧
  ((Option.isNone p33) = false →
  Calls Try.prog 15 #[.string s0] w5 fun e_5 w6 => ∃ s45 : ByteArray, e_5 = .returned (.string s45) ∧
  Calls Try.prog 14 #[.pointer p33, .int .i64 (Int.tmod (IntKind.i64.wrap n2) 5), .string s45] w6 fun e_6 w7 => ∃ n46 : Int, e_6 = .returned (.int .i64 n46) ∧
  ((n46 != 0) = true →
  R (.bool false) w7) ∧
  ((n46 != 0) = false →
  Calls Try.prog 15 #[.string s1] w7 fun e_7 w8 => ∃ s52 : ByteArray, e_7 = .returned (.string s52) ∧
  Calls Try.prog 14 #[.pointer p33, .int .i64 (Int.tmod (IntKind.i64.wrap ((Int.tmod (IntKind.i64.wrap n2) 5) + 1)) 5), .string s52] w8 fun e_8 w9 => ∃ n53 : Int, e_8 = .returned (.int .i64 n53) ∧
  ((n53 != 0) = true →
  R (.bool false) w9) ∧
  ((n53 != 0) = false →
  Calls Try.prog 21 #[.pointer p33, .int .i64 (Int.tmod (IntKind.i64.wrap n2) 5)] w9 fun e_9 w10 => ∃ n59 : Int, e_9 = .returned (.int .i64 n59) ∧
  ((n59 != 0) = true →
  R (.bool false) w10) ∧
  ((n59 != 0) = false →
  Calls Try.prog 18 #[.pointer p33, .int .i64 (Int.tmod (IntKind.i64.wrap n2) 5)] w10 fun e_10 w11 => ∃ s65_0 : ByteArray, ∃ n65_1 : Int, e_10 = .returned (.tuple #[.string s65_0, .int .i64 n65_1]) ∧
  Calls Try.prog 18 #[.pointer p33, .int .i64 (Int.tmod (IntKind.i64.wrap ((Int.tmod (IntKind.i64.wrap n2) 5) + 1)) 5)] w11 fun e_11 w12 => ∃ s71_0 : ByteArray, ∃ n71_1 : Int, e_11 = .returned (.tuple #[.string s71_0, .int .i64 n71_1]) ∧
  Calls Try.prog 16 #[.pointer p33] w12 fun e_12 w13 => ∃ n75 : Int, e_12 = .returned (.int .i64 n75) ∧
  Calls Try.prog 18 #[.pointer p33, .int .i64 (Int.tmod (IntKind.i64.wrap n2) 5)] w13 fun e_13 w14 => ∃ s79_0 : ByteArray, ∃ n79_1 : Int, e_13 = .returned (.tuple #[.string s79_0, .int .i64 n79_1]) ∧
  ((n65_1 != 41) = true →
  R (.bool false) w14) ∧
  ((n65_1 != 41) = false →
  ((!(s65_0.toList == (ByteArray.mk #[]).toList)) = true →
  R (.bool false) w14) ∧
  ((!(s65_0.toList == (ByteArray.mk #[]).toList)) = false →
  ((n71_1 != 0) = true →
  R (.bool false) w14) ∧
  ((n71_1 != 0) = false →
  Calls Try.prog 15 #[.string s1] w14 fun e_14 w15 => ∃ s95 : ByteArray, e_14 = .returned (.string s95) ∧
  ((!(s71_0.toList == s95.toList)) = true →
  R (.bool false) w15) ∧
  ((!(s71_0.toList == s95.toList)) = false →
  ((n79_1 != 41) = true →
  R (.bool false) w15) ∧
  ((n79_1 != 41) = false →
  Calls Try.prog 15 #[.string s1] w15 fun e_15 w16 => ∃ s106 : ByteArray, e_15 = .returned (.string s106) ∧
  Calls Try.prog 14 #[.pointer p33, .int .i64 (Int.tmod (IntKind.i64.wrap n2) 5), .string s106] w16 fun e_16 w17 => ∃ n107 : Int, e_16 = .returned (.int .i64 n107) ∧
  ((n107 != 0) = true →
  R (.bool false) w17) ∧
  ((n107 != 0) = false →
  Calls Try.prog 18 #[.pointer p33, .int .i64 (Int.tmod (IntKind.i64.wrap n2) 5)] w17 fun e_17 w18 => ∃ s113_0 : ByteArray, ∃ n113_1 : Int, e_17 = .returned (.tuple #[.string s113_0, .int .i64 n113_1]) ∧
  Calls Try.prog 22 #[.pointer p33, .int .i64 (Int.tmod (IntKind.i64.wrap n2) 5)] w18 fun e_18 w19 => ∃ s119_0 : ByteArray, ∃ n119_1 : Int, e_18 = .returned (.tuple #[.string s119_0, .int .i64 n119_1]) ∧
  ((n113_1 == 0) = true →
  Calls Try.prog 15 #[.string s1] w19 fun e_19 w20 => ∃ s127 : ByteArray, e_19 = .returned (.string s127) ∧
  ((s113_0.toList == s127.toList) = true →
  ((n119_1 == 0) = true →
  Calls Try.prog 15 #[.string s0] w20 fun e_20 w21 => ∃ s137 : ByteArray, e_20 = .returned (.string s137) ∧
  ((s119_0.toList == s137.toList) = true →
  Calls Try.prog 21 #[.pointer p33, .int .i64 5] w21 fun e_21 w22 => ∃ n142 : Int, e_21 = .returned (.int .i64 n142) ∧
  R (.bool (n142 == 70)) w22) ∧
  ((s119_0.toList == s137.toList) = false →
  R (.bool false) w21)) ∧
  ((n119_1 == 0) = false →
  R (.bool false) w20)) ∧
  ((s113_0.toList == s127.toList) = false →
  R (.bool false) w20)) ∧
  ((n113_1 == 0) = false →
  R (.bool false) w19))))))))))))))
theorem revetmentlaw04_DriveSpoils_eq (s0 : ByteArray) (s1 : ByteArray) (n2 : Int) (w : World) (R : Value → World → Prop) : revetmentlaw04_DriveSpoils s0 s1 n2 w R = fnP Try.prog Try.f5 .o [.string s0, .string s1, .int .u8 n2] w R := by kernel_rfl
theorem revetmentlaw04_DriveSpoils_calls {s0 : ByteArray} {s1 : ByteArray} {n2 : Int} {w : World} {R : Value → World → Prop} (h : revetmentlaw04_DriveSpoils s0 s1 n2 w R) : Calls Try.prog 5 #[.string s0, .string s1, .int .u8 n2] w fun e w1 => ∃ v, e = .returned v ∧ R v w1 := fnP_calls callable Try.func5 (revetmentlaw04_DriveSpoils_eq s0 s1 n2 w R ▸ h)

/-- revetment/revetmentlaw04.DriveSafe -/
def revetmentlaw04_DriveSafe (p0 : Option Addr) (l0 c0 : Nat) (n1 : Int) (p2 : Option Addr) (l2 c2 : Nat) (w : World) (R : Value → World → Prop) : Prop :=
  ((decide ((l0 : Int) > 60)) = true →
  Calls Try.prog 12 #[] w fun e w1 => ∃ b36 : Bool, e = .returned (.bool b36) ∧
  R (.bool b36) w1) ∧
  ((decide ((l0 : Int) > 60)) = false →
  ((decide ((l2 : Int) > 50)) = true →
  Calls Try.prog 12 #[] w fun e_1 w2 => ∃ b36_1 : Bool, e_1 = .returned (.bool b36_1) ∧
  R (.bool b36_1) w2) ∧
  ((decide ((l2 : Int) > 50)) = false →
  (((l0 : Int) == 0) = true →
  Calls Try.prog 12 #[] w fun e_2 w3 => ∃ b36_2 : Bool, e_2 = .returned (.bool b36_2) ∧
  R (.bool b36_2) w3) ∧
  (((l0 : Int) == 0) = false →
  Calls Try.prog 12 #[] w fun e_3 w4 => ∃ b33 : Bool, e_3 = .returned (.bool b33) ∧
  ((!b33) = true →
  Calls Try.prog 12 #[] w4 fun e_4 w5 => ∃ b36_3 : Bool, e_4 = .returned (.bool b36_3) ∧
  R (.bool b36_3) w5) ∧
  ((!b33) = false →
  Calls Try.prog 13 #[.int .i64 4] w4 fun e_5 w6 => ∃ p37 : Option Addr, e_5 = .returned (.pointer p37) ∧
  ((Option.isNone p37) = true →
  R (.bool false) w6) ∧
  ((Option.isNone p37) = false →
  (l0 : Int) ≠ 0 ∧
  LoopP (fun I => I [.int .i64 0] w6) fun K vs w7 => ∃ n9 : Int, vs = [.int .i64 n9] ∧
  ((decide (n9 < (l0 : Int))) = true →
  ∃ a53 : Addr, p0 = some a53 ∧ (0 : Int) ≤ n9 ∧ n9 < (l0 : Int) ∧
  ∃ s54 : ByteArray, w7.cell? (Addr.add a53 (n9.toNat * 1)) = some (.string s54) ∧
  ((decide ((s54.size : Int) > 100)) = true →
  Calls Try.prog 12 #[] w7 fun e_6 w8 => ∃ b57 : Bool, e_6 = .returned (.bool b57) ∧
  R (.bool b57) w8) ∧
  ((decide ((s54.size : Int) > 100)) = false →
  ∃ a63 : Addr, p0 = some a63 ∧ (0 : Int) ≤ n9 ∧ n9 < (l0 : Int) ∧
  ∃ s64 : ByteArray, w7.cell? (Addr.add a63 (n9.toNat * 1)) = some (.string s64) ∧
  Calls Try.prog 15 #[.string s64] w7 fun e_7 w9 => ∃ s65 : ByteArray, e_7 = .returned (.string s65) ∧
  Calls Try.prog 14 #[.pointer p37, .int .i64 (Int.tmod n9 4), .string s65] w9 fun e_8 w10 => ∃ n66 : Int, e_8 = .returned (.int .i64 n66) ∧
  ((n66 != 0) = true →
  R (.bool false) w10) ∧
  ((n66 != 0) = false →
  ((n9 == (Int.tmod (IntKind.i64.wrap n1) (l0 : Int))) = true →
  Calls Try.prog 16 #[.pointer p37] w10 fun e_9 w11 => ∃ n73 : Int, e_9 = .returned (.int .i64 n73) ∧
  ((n73 != 0) = true →
  R (.bool false) w11) ∧
  ((n73 != 0) = false →
  K [.int .i64 (IntKind.i64.wrap (n9 + 1))] w11)) ∧
  ((n9 == (Int.tmod (IntKind.i64.wrap n1) (l0 : Int))) = false →
  K [.int .i64 (IntKind.i64.wrap (n9 + 1))] w10)))) ∧
  ((decide (n9 < (l0 : Int))) = false →
  Calls Try.prog 17 #[.pointer p37, .slice p2 l2 c2] w7 fun e_10 w12 => e_10 = .returned (.tuple #[]) ∧
  LoopP (fun I_1 => I_1 [.int .i64 0] w12) fun K_1 vs_1 w13 => ∃ n10 : Int, vs_1 = [.int .i64 n10] ∧
  ((decide (n10 < 4)) = true →
  Calls Try.prog 18 #[.pointer p37, .int .i64 n10] w13 fun e_11 w14 => ∃ s86_0 : ByteArray, ∃ n86_1 : Int, e_11 = .returned (.tuple #[.string s86_0, .int .i64 n86_1]) ∧
  Calls Try.prog 22 #[.pointer p37, .int .i64 n10] w14 fun e_12 w15 => ∃ s92_0 : ByteArray, ∃ n92_1 : Int, e_12 = .returned (.tuple #[.string s92_0, .int .i64 n92_1]) ∧
  Join (fun vs_2 w16 => ∃ b15 : Bool, vs_2 = [.bool b15] ∧
  LoopP (fun I_2 => I_2 [.int .i64 (-1), .int .i64 n10] w16) fun K_2 vs_3 w17 => ∃ n16 : Int, ∃ n17 : Int, vs_3 = [.int .i64 n16, .int .i64 n17] ∧
  ((decide (n17 ≤ (Int.tmod (IntKind.i64.wrap n1) (l0 : Int)))) = true →
  K_2 [.int .i64 n17, .int .i64 (IntKind.i64.wrap (n17 + 4))] w17) ∧
  ((decide (n17 ≤ (Int.tmod (IntKind.i64.wrap n1) (l0 : Int)))) = false →
  LoopP (fun I_3 => I_3 [.bool b15, .int .i64 n10] w17) fun K_3 vs_4 w18 => ∃ b15_1 : Bool, ∃ n18 : Int, vs_4 = [.bool b15_1, .int .i64 n18] ∧
  ((decide (n18 < (l0 : Int))) = true →
  ((decide (n18 ≥ n16)) = true →
  ∃ a124 : Addr, p0 = some a124 ∧ (0 : Int) ≤ n18 ∧ n18 < (l0 : Int) ∧
  ∃ s125 : ByteArray, w18.cell? (Addr.add a124 (n18.toNat * 1)) = some (.string s125) ∧
  Calls Try.prog 15 #[.string s125] w18 fun e_13 w19 => ∃ s126 : ByteArray, e_13 = .returned (.string s126) ∧
  ((s86_0.toList == s126.toList) = true →
  K_3 [.bool true, .int .i64 (IntKind.i64.wrap (n18 + 4))] w19) ∧
  ((s86_0.toList == s126.toList) = false →
  K_3 [.bool b15_1, .int .i64 (IntKind.i64.wrap (n18 + 4))] w19)) ∧
  ((decide (n18 ≥ n16)) = false →
  K_3 [.bool b15_1, .int .i64 (IntKind.i64.wrap (n18 + 4))] w18)) ∧
  ((decide (n18 < (l0 : Int))) = false →
  ((n86_1 != 0) = true →
  R (.bool false) w18) ∧
  ((n86_1 != 0) = false →
  ((n92_1 != 0) = true →
  R (.bool false) w18) ∧
  ((n92_1 != 0) = false →
  ((!(s86_0.toList == s92_0.toList)) = true →
  R (.bool false) w18) ∧
  ((!(s86_0.toList == s92_0.toList)) = false →
  ((!b15_1) = true →
  R (.bool false) w18) ∧
  ((!b15_1) = false →
  K_1 [.int .i64 (IntKind.i64.wrap (n10 + 1))] w18))))))) fun J =>
  ((decide ((Int.tmod (IntKind.i64.wrap n1) (l0 : Int)) < n10)) = true →
  Calls Try.prog 23 #[] w15 fun e_14 w20 => ∃ s100 : ByteArray, e_14 = .returned (.string s100) ∧
  ((s86_0.toList == s100.toList) = true →
  J [.bool true] w20) ∧
  ((s86_0.toList == s100.toList) = false →
  J [.bool false] w20)) ∧
  ((decide ((Int.tmod (IntKind.i64.wrap n1) (l0 : Int)) < n10)) = false →
  J [.bool false] w15)) ∧
  ((decide (n10 < 4)) = false →
  Calls Try.prog 19 #[.pointer p37] w13 fun e_15 w21 => ∃ n145 : Int, e_15 = .returned (.int .i64 n145) ∧
  R (.bool (n145 == 0)) w21)))))))
theorem revetmentlaw04_DriveSafe_eq (p0 : Option Addr) (l0 c0 : Nat) (n1 : Int) (p2 : Option Addr) (l2 c2 : Nat) (w : World) (R : Value → World → Prop) : revetmentlaw04_DriveSafe p0 l0 c0 n1 p2 l2 c2 w R = fnP Try.prog Try.f6 (.s .o (.s .o (.s .o (.s .o (.s .o (.s (.s .o (.b (.l [(9, .one (.int .i64))] .o))) (.s .o (.s (.s .o (.b (.l [(10, .one (.int .i64))] (.s .o (.s (.b (.s .o (.s .o (.s .o (.j [(15, .one .bool)] .o (.s .o (.s (.s .o (.b (.l [(16, .one (.int .i64)), (17, .one (.int .i64))] .o))) (.s (.s .o (.b (.l [(15, .one .bool), (18, .one (.int .i64))] .o))) .o)))))))) .o))))) .o)))))))) [.slice p0 l0 c0, .int .u8 n1, .slice p2 l2 c2] w R := by kernel_rfl
theorem revetmentlaw04_DriveSafe_calls {p0 : Option Addr} {l0 c0 : Nat} {n1 : Int} {p2 : Option Addr} {l2 c2 : Nat} {w : World} {R : Value → World → Prop} (h : revetmentlaw04_DriveSafe p0 l0 c0 n1 p2 l2 c2 w R) : Calls Try.prog 6 #[.slice p0 l0 c0, .int .u8 n1, .slice p2 l2 c2] w fun e w1 => ∃ v, e = .returned v ∧ R v w1 := fnP_calls callable Try.func6 (revetmentlaw04_DriveSafe_eq p0 l0 c0 n1 p2 l2 c2 w R ▸ h)

/-- revetment/revetmentlaw04.DriveDead -/
def revetmentlaw04_DriveDead (s0 : ByteArray) (n1 : Int) (p2 : Option Addr) (l2 c2 : Nat) (w : World) (R : Value → World → Prop) : Prop :=
  Calls Try.prog 24 #[.slice p2 l2 c2] w fun e w1 => ∃ b15 : Bool, e = .returned (.bool b15) ∧
  (b15 = true →
  Calls Try.prog 12 #[] w1 fun e_1 w2 => ∃ b25 : Bool, e_1 = .returned (.bool b25) ∧
  R (.bool b25) w2) ∧
  (b15 = false →
  ((decide ((s0.size : Int) > 100)) = true →
  Calls Try.prog 12 #[] w1 fun e_2 w3 => ∃ b25_1 : Bool, e_2 = .returned (.bool b25_1) ∧
  R (.bool b25_1) w3) ∧
  ((decide ((s0.size : Int) > 100)) = false →
  Calls Try.prog 12 #[] w1 fun e_3 w4 => ∃ b22 : Bool, e_3 = .returned (.bool b22) ∧
  ((!b22) = true →
  Calls Try.prog 12 #[] w4 fun e_4 w5 => ∃ b25_2 : Bool, e_4 = .returned (.bool b25_2) ∧
  R (.bool b25_2) w5) ∧
  ((!b22) = false →
  Calls Try.prog 13 #[.int .i64 5] w4 fun e_5 w6 => ∃ p26 : Option Addr, e_5 = .returned (.pointer p26) ∧
  Calls Try.prog 25 #[.int .i64 5] w6 fun e_6 w7 => ∃ p27 : Option Addr, e_6 = .returned (.pointer p27) ∧
  ((Option.isNone p26) = true →
  R (.bool false) w7) ∧
  ((Option.isNone p26) = false →
  Calls Try.prog 15 #[.string s0] w7 fun e_7 w8 => ∃ s33 : ByteArray, e_7 = .returned (.string s33) ∧
  Calls Try.prog 14 #[.pointer p26, .int .i64 2, .string s33] w8 fun e_8 w9 => ∃ n34 : Int, e_8 = .returned (.int .i64 n34) ∧
  ((n34 != 0) = true →
  R (.bool false) w9) ∧
  ((n34 != 0) = false →
  Calls Try.prog 16 #[.pointer p26] w9 fun e_9 w10 => ∃ n39 : Int, e_9 = .returned (.int .i64 n39) ∧
  ((n39 != 0) = true →
  R (.bool false) w10) ∧
  ((n39 != 0) = false →
  Calls Try.prog 15 #[.string s0] w10 fun e_10 w11 => ∃ s45 : ByteArray, e_10 = .returned (.string s45) ∧
  Calls Try.prog 26 #[.pointer p27, .int .i64 2, .string s45] w11 fun e_11 w12 => ∃ n46 : Int, e_11 = .returned (.int .i64 n46) ∧
  ((n46 != 0) = true →
  R (.bool false) w12) ∧
  ((n46 != 0) = false →
  Calls Try.prog 27 #[.pointer p27] w12 fun e_12 w13 => ∃ n51 : Int, e_12 = .returned (.int .i64 n51) ∧
  ((n51 != 0) = true →
  R (.bool false) w13) ∧
  ((n51 != 0) = false →
  Calls Try.prog 28 #[.pointer p26] w13 fun e_13 w14 => e_13 = .returned (.tuple #[]) ∧
  ∃ a57 : Addr, p27 = some a57 ∧
  St (a57.add 3) (.bool true) w14 fun w15 =>
  LoopP (fun I => I [.int .i64 0] w15) fun K vs w16 => ∃ n9 : Int, vs = [.int .i64 n9] ∧
  ((decide (n9 < (l2 : Int))) = true →
  ∃ a69 : Addr, p2 = some a69 ∧ (0 : Int) ≤ n9 ∧ n9 < (l2 : Int) ∧
  ∃ n70_0 : Int, ∃ n70_1 : Int, ∃ s70_2 : ByteArray, ∃ (p70_3 : Option Addr) (l70_3 c70_3 : Nat), (w16.cell? (Addr.add a69 (n9.toNat * 4)) = some (.int .i64 n70_0) ∧ w16.cell? (Addr.add (Addr.add a69 (n9.toNat * 4)) 1) = some (.int .i64 n70_1) ∧ w16.cell? (Addr.add (Addr.add a69 (n9.toNat * 4)) 2) = some (.string s70_2) ∧ w16.cell? (Addr.add (Addr.add a69 (n9.toNat * 4)) 3) = some (.slice p70_3 l70_3 c70_3)) ∧
  Calls Try.prog 29 #[.pointer p26, .pointer p27, .agg #[.int .i64 n70_0, .int .i64 n70_1, .string s70_2, .slice p70_3 l70_3 c70_3]] w16 fun e_14 w17 => ∃ b71 : Bool, e_14 = .returned (.bool b71) ∧
  ((!b71) = true →
  R (.bool false) w17) ∧
  ((!b71) = false →
  K [.int .i64 (IntKind.i64.wrap (n9 + 1))] w17)) ∧
  ((decide (n9 < (l2 : Int))) = false →
  Calls Try.prog 22 #[.pointer p26, .int .i64 2] w16 fun e_15 w18 => ∃ s75_0 : ByteArray, ∃ n75_1 : Int, e_15 = .returned (.tuple #[.string s75_0, .int .i64 n75_1]) ∧
  Calls Try.prog 18 #[.pointer p26, .int .i64 n1] w18 fun e_16 w19 => ∃ s81_0 : ByteArray, ∃ n81_1 : Int, e_16 = .returned (.tuple #[.string s81_0, .int .i64 n81_1]) ∧
  Calls Try.prog 15 #[.string s0] w19 fun e_17 w20 => ∃ s86 : ByteArray, e_17 = .returned (.string s86) ∧
  ((s75_0.toList == s86.toList) = true →
  ((n75_1 == 0) = true →
  ((n81_1 == 40) = true →
  Calls Try.prog 15 #[.string s0] w20 fun e_18 w21 => ∃ s100 : ByteArray, e_18 = .returned (.string s100) ∧
  Calls Try.prog 14 #[.pointer p26, .int .i64 n1, .string s100] w21 fun e_19 w22 => ∃ n101 : Int, e_19 = .returned (.int .i64 n101) ∧
  ((n101 == 40) = true →
  Calls Try.prog 16 #[.pointer p26] w22 fun e_20 w23 => ∃ n106 : Int, e_20 = .returned (.int .i64 n106) ∧
  ((n106 == 40) = true →
  Calls Try.prog 21 #[.pointer p26, .int .i64 n1] w23 fun e_21 w24 => ∃ n112 : Int, e_21 = .returned (.int .i64 n112) ∧
  ((n112 == 40) = true →
  Calls Try.prog 30 #[.pointer p26, .int .i64 n1, .string s0] w24 fun e_22 w25 => ∃ n119 : Int, e_22 = .returned (.int .i64 n119) ∧
  ((n119 == 40) = true →
  Calls Try.prog 31 #[.pointer p26] w25 fun e_23 w26 => ∃ b124 : Bool, e_23 = .returned (.bool b124) ∧
  R (.bool b124) w26) ∧
  ((n119 == 40) = false →
  R (.bool false) w25)) ∧
  ((n112 == 40) = false →
  R (.bool false) w24)) ∧
  ((n106 == 40) = false →
  R (.bool false) w23)) ∧
  ((n101 == 40) = false →
  R (.bool false) w22)) ∧
  ((n81_1 == 40) = false →
  R (.bool false) w20)) ∧
  ((n75_1 == 0) = false →
  R (.bool false) w20)) ∧
  ((s75_0.toList == s86.toList) = false →
  R (.bool false) w20))))))))))
theorem revetmentlaw04_DriveDead_eq (s0 : ByteArray) (n1 : Int) (p2 : Option Addr) (l2 c2 : Nat) (w : World) (R : Value → World → Prop) : revetmentlaw04_DriveDead s0 n1 p2 l2 c2 w R = fnP Try.prog Try.f7 (.s .o (.s .o (.s .o (.s .o (.s .o (.s .o (.s .o (.s (.s .o (.b (.l [(9, .one (.int .i64))] .o))) .o)))))))) [.string s0, .int .i64 n1, .slice p2 l2 c2] w R := by kernel_rfl
theorem revetmentlaw04_DriveDead_calls {s0 : ByteArray} {n1 : Int} {p2 : Option Addr} {l2 c2 : Nat} {w : World} {R : Value → World → Prop} (h : revetmentlaw04_DriveDead s0 n1 p2 l2 c2 w R) : Calls Try.prog 7 #[.string s0, .int .i64 n1, .slice p2 l2 c2] w fun e w1 => ∃ v, e = .returned v ∧ R v w1 := fnP_calls callable Try.func7 (revetmentlaw04_DriveDead_eq s0 n1 p2 l2 c2 w R ▸ h)

/-- revetment/revetmentlaw04.shown -/
def revetmentlaw04_shown (w : World) (R : Value → World → Prop) : Prop :=
  Calls Try.prog 13 #[.int .i64 3] w fun e w1 => ∃ p4 : Option Addr, e = .returned (.pointer p4) ∧
  ((Option.isNone p4) = true →
  R (.bool false) w1) ∧
  ((Option.isNone p4) = false →
  Calls Try.prog 15 #[.string (ByteArray.mk #[97])] w1 fun e_1 w2 => ∃ s9 : ByteArray, e_1 = .returned (.string s9) ∧
  Calls Try.prog 14 #[.pointer p4, .int .i64 1, .string s9] w2 fun e_2 w3 => ∃ n10 : Int, e_2 = .returned (.int .i64 n10) ∧
  ((n10 != 0) = true →
  R (.bool false) w3) ∧
  ((n10 != 0) = false →
  Calls Try.prog 18 #[.pointer p4, .int .i64 1] w3 fun e_3 w4 => ∃ s15_0 : ByteArray, ∃ n15_1 : Int, e_3 = .returned (.tuple #[.string s15_0, .int .i64 n15_1]) ∧
  Calls Try.prog 15 #[.string (ByteArray.mk #[97])] w4 fun e_4 w5 => ∃ s19 : ByteArray, e_4 = .returned (.string s19) ∧
  ((s15_0.toList == s19.toList) = true →
  ((n15_1 == 0) = true →
  Calls Try.prog 19 #[.pointer p4] w5 fun e_5 w6 => ∃ n27 : Int, e_5 = .returned (.int .i64 n27) ∧
  R (.bool (n27 == 1)) w6) ∧
  ((n15_1 == 0) = false →
  R (.bool false) w5)) ∧
  ((s15_0.toList == s19.toList) = false →
  R (.bool false) w5)))
theorem revetmentlaw04_shown_eq (w : World) (R : Value → World → Prop) : revetmentlaw04_shown w R = fnP Try.prog Try.f12 .o [] w R := by kernel_rfl
theorem revetmentlaw04_shown_calls {w : World} {R : Value → World → Prop} (h : revetmentlaw04_shown w R) : Calls Try.prog 12 #[] w fun e w1 => ∃ v, e = .returned v ∧ R v w1 := fnP_calls callable Try.func12 (revetmentlaw04_shown_eq w R ▸ h)

/-- revetment/drive.New -/
def drive_New (n0 : Int) (w : World) (R : Value → World → Prop) : Prop :=
  ((decide (n0 < 1)) = true →
  R (.pointer none) w) ∧
  ((decide (n0 < 1)) = false →
  ((decide (n0 > 4096)) = true →
  R (.pointer none) w) ∧
  ((decide (n0 > 4096)) = false →
  ∃ (p10 : Option Addr) (l10 c10 : Nat), ∃ w1, (Instr.makeSlice 81 (.int .i64 n0) (.int .i64 n0)).run Try.prog w = .ok (.slice p10 l10 c10) w1 ∧
  AllocM w1 fun k11 w2 =>
  AllocM w2 fun k12 w3 =>
  Alloc #[.slice p10 l10 c10, .map (some k11), .map (some k12), .bool false, .int .i64 0, .bool false] 85 w3 fun k14 w4 =>
  R (.pointer (some ⟨k14, 0, none⟩)) w4))
theorem drive_New_eq (n0 : Int) (w : World) (R : Value → World → Prop) : drive_New n0 w R = fnP Try.prog Try.f13 .o [.int .i64 n0] w R := by kernel_rfl
theorem drive_New_calls {n0 : Int} {w : World} {R : Value → World → Prop} (h : drive_New n0 w R) : Calls Try.prog 13 #[.int .i64 n0] w fun e w1 => ∃ v, e = .returned v ∧ R v w1 := fnP_calls callable Try.func13 (drive_New_eq n0 w R ▸ h)

/-- (*revetment/drive.Drive).Write -/
def drive_Drive_Write (p0 : Option Addr) (n1 : Int) (s2 : ByteArray) (w : World) (R : Value → World → Prop) : Prop :=
  Alloc #[.pointer p0] 24 w fun k3 w1 =>
  Alloc #[.int .i64 n1] 3 w1 fun k4 w2 =>
  ∃ p7 : Option Addr, w2.cell? ⟨k3, 0, none⟩ = some (.pointer p7) ∧
  ∃ n8 : Int, w2.cell? ⟨k4, 0, none⟩ = some (.int .i64 n8) ∧
  Calls Try.prog 44 #[.pointer p7, .int .i64 n8, .string s2, .func (.func 45) #[] #[.pointer (some ⟨k3, 0, none⟩), .pointer (some ⟨k4, 0, none⟩)]] w2 fun e w3 => ∃ n11 : Int, e = .returned (.int .i64 n11) ∧
  R (.int .i64 n11) w3
theorem drive_Drive_Write_eq (p0 : Option Addr) (n1 : Int) (s2 : ByteArray) (w : World) (R : Value → World → Prop) : drive_Drive_Write p0 n1 s2 w R = fnP Try.prog Try.f14 .o [.pointer p0, .int .i64 n1, .string s2] w R := by kernel_rfl
theorem drive_Drive_Write_calls {p0 : Option Addr} {n1 : Int} {s2 : ByteArray} {w : World} {R : Value → World → Prop} (h : drive_Drive_Write p0 n1 s2 w R) : Calls Try.prog 14 #[.pointer p0, .int .i64 n1, .string s2] w fun e w1 => ∃ v, e = .returned v ∧ R v w1 := fnP_calls callable Try.func14 (drive_Drive_Write_eq p0 n1 s2 w R ▸ h)

/-- revetment/revetmentlaw04.full -/
def revetmentlaw04_full (s0 : ByteArray) (w : World) (R : Value → World → Prop) : Prop :=
  Calls Try.prog 23 #[] w fun e w1 => ∃ s4 : ByteArray, e = .returned (.string s4) ∧
  ((s0.size + s4.size : Nat) : Int) ≤ 9223372036854775807 ∧
  ∃ s7 : ByteArray, ∃ w2, (Instr.sliceAt 9 (.string (s0 ++ s4)) none (some (.int .i64 64)) none).run Try.prog w1 = .ok (.string s7) w2 ∧
  R (.string s7) w2
theorem revetmentlaw04_full_eq (s0 : ByteArray) (w : World) (R : Value → World → Prop) : revetmentlaw04_full s0 w R = fnP Try.prog Try.f15 .o [.string s0] w R := by kernel_rfl
theorem revetmentlaw04_full_calls {s0 : ByteArray} {w : World} {R : Value → World → Prop} (h : revetmentlaw04_full s0 w R) : Calls Try.prog 15 #[.string s0] w fun e w1 => ∃ v, e = .returned v ∧ R v w1 := fnP_calls callable Try.func15 (revetmentlaw04_full_eq s0 w R ▸ h)

/-- (*revetment/drive.Drive).Flush -/
def drive_Drive_Flush (p0 : Option Addr) (w : World) (R : Value → World → Prop) : Prop :=
  ∃ a4 : Addr, p0 = some a4 ∧
  ∃ b6 : Bool, w.cell? (a4.add 3) = some (.bool b6) ∧
  (b6 = true →
  R (.int .i64 40) w) ∧
  (b6 = false →
  Calls Try.prog 46 #[.pointer p0] w fun e w1 => ∃ b8 : Bool, e = .returned (.bool b8) ∧
  (b8 = true →
  R (.int .i64 42) w1) ∧
  (b8 = false →
  ∃ a10 : Addr, p0 = some a10 ∧
  ∃ n12 : Int, w1.cell? (a10.add 4) = some (.int .i64 n12) ∧
  ∃ a14 : Addr, p0 = some a14 ∧
  St (a14.add 4) (.int .i64 (IntKind.i64.wrap (n12 - 1))) w1 fun w2 =>
  Calls Try.prog 47 #[.pointer p0, .func (.func 48) #[] #[]] w2 fun e_1 w3 => e_1 = .returned (.tuple #[]) ∧
  R (.int .i64 0) w3))
theorem drive_Drive_Flush_eq (p0 : Option Addr) (w : World) (R : Value → World → Prop) : drive_Drive_Flush p0 w R = fnP Try.prog Try.f16 .o [.pointer p0] w R := by kernel_rfl
theorem drive_Drive_Flush_calls {p0 : Option Addr} {w : World} {R : Value → World → Prop} (h : drive_Drive_Flush p0 w R) : Calls Try.prog 16 #[.pointer p0] w fun e w1 => ∃ v, e = .returned v ∧ R v w1 := fnP_calls callable Try.func16 (drive_Drive_Flush_eq p0 w R ▸ h)

/-- (*revetment/drive.Drive).Crash -/
def drive_Drive_Crash (p0 : Option Addr) (p1 : Option Addr) (l1 c1 : Nat) (w : World) (R : Value → World → Prop) : Prop :=
  Alloc #[.slice p1 l1 c1] 30 w fun k3 w1 =>
  ∃ a5 : Addr, p0 = some a5 ∧
  St (a5.add 5) (.bool false) w1 fun w2 =>
  Calls Try.prog 47 #[.pointer p0, .func (.func 49) #[] #[.pointer (some ⟨k3, 0, none⟩)]] w2 fun e w3 => e = .returned (.tuple #[]) ∧
  R (.tuple #[]) w3
theorem drive_Drive_Crash_eq (p0 : Option Addr) (p1 : Option Addr) (l1 c1 : Nat) (w : World) (R : Value → World → Prop) : drive_Drive_Crash p0 p1 l1 c1 w R = fnP Try.prog Try.f17 .o [.pointer p0, .slice p1 l1 c1] w R := by kernel_rfl
theorem drive_Drive_Crash_calls {p0 : Option Addr} {p1 : Option Addr} {l1 c1 : Nat} {w : World} {R : Value → World → Prop} (h : drive_Drive_Crash p0 p1 l1 c1 w R) : Calls Try.prog 17 #[.pointer p0, .slice p1 l1 c1] w fun e w1 => ∃ v, e = .returned v ∧ R v w1 := fnP_calls callable Try.func17 (drive_Drive_Crash_eq p0 p1 l1 c1 w R ▸ h)

/-- (*revetment/drive.Drive).Read -/
def drive_Drive_Read (p0 : Option Addr) (n1 : Int) (w : World) (R : Value → World → Prop) : Prop :=
  Calls Try.prog 50 #[.pointer p0, .int .i64 n1] w fun e w1 => ∃ n10 : Int, e = .returned (.int .i64 n10) ∧
  ∃ a12 : Addr, p0 = some a12 ∧
  ∃ m14 : Option Nat, w1.cell? (a12.add 1) = some (.map m14) ∧
  ∃ (p16 : Option Addr) (l16 c16 : Nat), ∃ w2, (Instr.lookup 82 (.map m14) (.int .i64 n1) false).run Try.prog w1 = .ok (.slice p16 l16 c16) w2 ∧
  ((n10 != 0) = true →
  R (.tuple #[.string (ByteArray.mk #[]), .int .i64 n10]) w2) ∧
  ((n10 != 0) = false →
  ∃ a23 : Addr, p0 = some a23 ∧
  ∃ m25 : Option Nat, w2.cell? (a23.add 2) = some (.map m25) ∧
  ∃ b27 : Bool, ∃ w3, (Instr.lookup 83 (.map m25) (.int .i64 n1) false).run Try.prog w2 = .ok (.bool b27) w3 ∧
  (b27 = true →
  R (.tuple #[.string (ByteArray.mk #[]), .int .i64 41]) w3) ∧
  (b27 = false →
  ((decide ((l16 : Int) > 0)) = true →
  ∃ a36 : Addr, p16 = some a36 ∧ (0 : Int) ≤ IntKind.i64.wrap ((l16 : Int) - 1) ∧ (IntKind.i64.wrap ((l16 : Int) - 1)) < (l16 : Int) ∧
  ∃ (p37 : Option Addr) (l37 c37 : Nat), ∃ w4, (Instr.sliceAt 88 (.pointer (some (Addr.add a36 ((IntKind.i64.wrap ((l16 : Int) - 1)).toNat * 64)))) none none none).run Try.prog w3 = .ok (.slice p37 l37 c37) w4 ∧
  ∃ s38 : ByteArray, ∃ w5, (convert 30 9 (.slice p37 l37 c37)).run Try.prog w4 = .ok (.string s38) w5 ∧
  R (.tuple #[.string s38, .int .i64 0]) w5) ∧
  ((decide ((l16 : Int) > 0)) = false →
  ∃ a40 : Addr, p0 = some a40 ∧
  ∃ (p42 : Option Addr) (l42 c42 : Nat), w3.cell? a40 = some (.slice p42 l42 c42) ∧
  ∃ a44 : Addr, p42 = some a44 ∧ (0 : Int) ≤ n1 ∧ n1 < (l42 : Int) ∧
  ∃ (p45 : Option Addr) (l45 c45 : Nat), ∃ w6, (Instr.sliceAt 88 (.pointer (some (Addr.add a44 (n1.toNat * 64)))) none none none).run Try.prog w3 = .ok (.slice p45 l45 c45) w6 ∧
  ∃ s46 : ByteArray, ∃ w7, (convert 30 9 (.slice p45 l45 c45)).run Try.prog w6 = .ok (.string s46) w7 ∧
  R (.tuple #[.string s46, .int .i64 0]) w7)))
theorem drive_Drive_Read_eq (p0 : Option Addr) (n1 : Int) (w : World) (R : Value → World → Prop) : drive_Drive_Read p0 n1 w R = fnP Try.prog Try.f18 .o [.pointer p0, .int .i64 n1] w R := by kernel_rfl
theorem drive_Drive_Read_calls {p0 : Option Addr} {n1 : Int} {w : World} {R : Value → World → Prop} (h : drive_Drive_Read p0 n1 w R) : Calls Try.prog 18 #[.pointer p0, .int .i64 n1] w fun e w1 => ∃ v, e = .returned v ∧ R v w1 := fnP_calls callable Try.func18 (drive_Drive_Read_eq p0 n1 w R ▸ h)

/-- (*revetment/drive.Drive).Pending -/
def drive_Drive_Pending (p0 : Option Addr) (w : World) (R : Value → World → Prop) : Prop :=
  ∃ a7 : Addr, p0 = some a7 ∧
  ∃ m9 : Option Nat, w.cell? (a7.add 1) = some (.map m9) ∧
  ∃ p10 : Option Addr, ∃ w1, (Instr.range 82 (.map m9)).run Try.prog w = .ok (.pointer p10) w1 ∧
  LoopP (fun I => I [.int .i64 0] w1) fun K vs w2 => ∃ n3 : Int, vs = [.int .i64 n3] ∧
  ((∃ w3, (Instr.next (.pointer p10) false 0).run Try.prog w2 = .ok (.tuple #[.bool false]) w3 ∧
  (false = true →
  ∃ v13_0 : Value, ∃ v13_1 : Value, ∃ w4, (Instr.entry (.pointer p10)).run Try.prog w3 = .ok (.tuple #[v13_0, v13_1]) w4 ∧
  ∃ (p14 : Option Addr) (l14 c14 : Nat), some v13_1 = some (.slice p14 l14 c14) ∧
  K [.int .i64 (IntKind.i64.wrap (n3 + (l14 : Int)))] w4) ∧
  (false = false →
  R (.int .i64 n3) w3)) ∨
  ∃ (v11 v11_1 : Value) (w5 : World), (Instr.next (.pointer p10) false 0).run Try.prog w2 = .ok (.tuple #[.bool true, v11, v11_1]) w5 ∧
  (true = true →
  ∃ v13_0_1 : Value, ∃ v13_1_1 : Value, ∃ w6, (Instr.entry (.pointer p10)).run Try.prog w5 = .ok (.tuple #[v13_0_1, v13_1_1]) w6 ∧
  ∃ (p14_1 : Option Addr) (l14_1 c14_1 : Nat), some v13_1_1 = some (.slice p14_1 l14_1 c14_1) ∧
  K [.int .i64 (IntKind.i64.wrap (n3 + (l14_1 : Int)))] w6) ∧
  (true = false →
  R (.int .i64 n3) w5))
theorem drive_Drive_Pending_eq (p0 : Option Addr) (w : World) (R : Value → World → Prop) : drive_Drive_Pending p0 w R = fnP Try.prog Try.f19 (.s .o (.s .o (.s (.s .o (.b (.l [(3, .one (.int .i64))] .o))) .o))) [.pointer p0] w R := by kernel_rfl
theorem drive_Drive_Pending_calls {p0 : Option Addr} {w : World} {R : Value → World → Prop} (h : drive_Drive_Pending p0 w R) : Calls Try.prog 19 #[.pointer p0] w fun e w1 => ∃ v, e = .returned v ∧ R v w1 := fnP_calls callable Try.func19 (drive_Drive_Pending_eq p0 w R ▸ h)

/-- (*revetment/drive.Drive).Off -/
def drive_Drive_Off (p0 : Option Addr) (n1 : Int) (w : World) (R : Value → World → Prop) : Prop :=
  ∃ n7 : Int, ∃ w1, (builtin .max #[3, 3] 3 #[false, true] #[.int .i64 n1, .int .i64 0]).run Try.prog w = .ok (.value (.int .i64 n7)) w1 ∧
  ∃ a8 : Addr, p0 = some a8 ∧
  St (a8.add 5) (.bool true) w1 fun w2 =>
  ∃ a10 : Addr, p0 = some a10 ∧
  St (a10.add 4) (.int .i64 n7) w2 fun w3 =>
  R (.tuple #[]) w3
theorem drive_Drive_Off_eq (p0 : Option Addr) (n1 : Int) (w : World) (R : Value → World → Prop) : drive_Drive_Off p0 n1 w R = fnP Try.prog Try.f20 .o [.pointer p0, .int .i64 n1] w R := by kernel_rfl
theorem drive_Drive_Off_calls {p0 : Option Addr} {n1 : Int} {w : World} {R : Value → World → Prop} (h : drive_Drive_Off p0 n1 w R) : Calls Try.prog 20 #[.pointer p0, .int .i64 n1] w fun e w1 => ∃ v, e = .returned v ∧ R v w1 := fnP_calls callable Try.func20 (drive_Drive_Off_eq p0 n1 w R ▸ h)

/-- (*revetment/drive.Drive).Spoil -/
def drive_Drive_Spoil (p0 : Option Addr) (n1 : Int) (w : World) (R : Value → World → Prop) : Prop :=
  Calls Try.prog 50 #[.pointer p0, .int .i64 n1] w fun e w1 => ∃ n8 : Int, e = .returned (.int .i64 n8) ∧
  ((n8 == 0) = true →
  ∃ a12 : Addr, p0 = some a12 ∧
  ∃ m14 : Option Nat, w1.cell? (a12.add 2) = some (.map m14) ∧
  ∃ w2, (Instr.mapUpdate 83 (.map m14) (.int .i64 n1) (.bool true)).run Try.prog w1 = .ok () w2 ∧
  R (.int .i64 n8) w2) ∧
  ((n8 == 0) = false →
  R (.int .i64 n8) w1)
theorem drive_Drive_Spoil_eq (p0 : Option Addr) (n1 : Int) (w : World) (R : Value → World → Prop) : drive_Drive_Spoil p0 n1 w R = fnP Try.prog Try.f21 .o [.pointer p0, .int .i64 n1] w R := by kernel_rfl
theorem drive_Drive_Spoil_calls {p0 : Option Addr} {n1 : Int} {w : World} {R : Value → World → Prop} (h : drive_Drive_Spoil p0 n1 w R) : Calls Try.prog 21 #[.pointer p0, .int .i64 n1] w fun e w1 => ∃ v, e = .returned v ∧ R v w1 := fnP_calls callable Try.func21 (drive_Drive_Spoil_eq p0 n1 w R ▸ h)

/-- (*revetment/drive.Drive).Safe -/
def drive_Drive_Safe (p0 : Option Addr) (n1 : Int) (w : World) (R : Value → World → Prop) : Prop :=
  ((decide (n1 < 0)) = true →
  R (.tuple #[.string (ByteArray.mk #[]), .int .i64 70]) w) ∧
  ((decide (n1 < 0)) = false →
  ∃ a11 : Addr, p0 = some a11 ∧
  ∃ (p13 : Option Addr) (l13 c13 : Nat), w.cell? a11 = some (.slice p13 l13 c13) ∧
  ((decide (n1 ≥ (l13 : Int))) = true →
  R (.tuple #[.string (ByteArray.mk #[]), .int .i64 70]) w) ∧
  ((decide (n1 ≥ (l13 : Int))) = false →
  ∃ a18 : Addr, p0 = some a18 ∧
  ∃ (p20 : Option Addr) (l20 c20 : Nat), w.cell? a18 = some (.slice p20 l20 c20) ∧
  ∃ a22 : Addr, p20 = some a22 ∧ (0 : Int) ≤ n1 ∧ n1 < (l20 : Int) ∧
  ∃ (p23 : Option Addr) (l23 c23 : Nat), ∃ w1, (Instr.sliceAt 88 (.pointer (some (Addr.add a22 (n1.toNat * 64)))) none none none).run Try.prog w = .ok (.slice p23 l23 c23) w1 ∧
  ∃ s24 : ByteArray, ∃ w2, (convert 30 9 (.slice p23 l23 c23)).run Try.prog w1 = .ok (.string s24) w2 ∧
  R (.tuple #[.string s24, .int .i64 0]) w2))
theorem drive_Drive_Safe_eq (p0 : Option Addr) (n1 : Int) (w : World) (R : Value → World → Prop) : drive_Drive_Safe p0 n1 w R = fnP Try.prog Try.f22 .o [.pointer p0, .int .i64 n1] w R := by kernel_rfl
theorem drive_Drive_Safe_calls {p0 : Option Addr} {n1 : Int} {w : World} {R : Value → World → Prop} (h : drive_Drive_Safe p0 n1 w R) : Calls Try.prog 22 #[.pointer p0, .int .i64 n1] w fun e w1 => ∃ v, e = .returned v ∧ R v w1 := fnP_calls callable Try.func22 (drive_Drive_Safe_eq p0 n1 w R ▸ h)

/-- revetment/revetmentref04.Blank -/
def revetmentref04_Blank (w : World) (R : Value → World → Prop) : Prop :=
  LoopP (fun I => I [.string (ByteArray.mk #[]), .int .i64 0] w) fun K vs w1 => ∃ s1 : ByteArray, ∃ n2 : Int, vs = [.string s1, .int .i64 n2] ∧
  ((decide (n2 < 64)) = true →
  ((s1.size + (ByteArray.mk #[0]).size : Nat) : Int) ≤ 9223372036854775807 ∧
  K [.string (s1 ++ (ByteArray.mk #[0])), .int .i64 (IntKind.i64.wrap (n2 + 1))] w1) ∧
  ((decide (n2 < 64)) = false →
  R (.string s1) w1)
theorem revetmentref04_Blank_eq (w : World) (R : Value → World → Prop) : revetmentref04_Blank w R = fnP Try.prog Try.f23 (.s .o (.s .o (.s (.s .o (.b (.l [(1, .one .str), (2, .one (.int .i64))] .o))) .o))) [] w R := by kernel_rfl
theorem revetmentref04_Blank_calls {w : World} {R : Value → World → Prop} (h : revetmentref04_Blank w R) : Calls Try.prog 23 #[] w fun e w1 => ∃ v, e = .returned v ∧ R v w1 := fnP_calls callable Try.func23 (revetmentref04_Blank_eq w R ▸ h)

/-- revetment/revetmentlaw04.heavy -/
def revetmentlaw04_heavy (p0 : Option Addr) (l0 c0 : Nat) (w : World) (R : Value → World → Prop) : Prop :=
  ((decide ((l0 : Int) > 150)) = true →
  R (.bool true) w) ∧
  ((decide ((l0 : Int) > 150)) = false →
  LoopP (fun I => I [.int .i64 0] w) fun K vs w1 => ∃ n3 : Int, vs = [.int .i64 n3] ∧
  ((decide (n3 < (l0 : Int))) = true →
  ∃ a15 : Addr, p0 = some a15 ∧ (0 : Int) ≤ n3 ∧ n3 < (l0 : Int) ∧
  ∃ s17 : ByteArray, w1.cell? (Addr.add (Addr.add a15 (n3.toNat * 4)) 2) = some (.string s17) ∧
  ((decide ((s17.size : Int) > 100)) = true →
  R (.bool true) w1) ∧
  ((decide ((s17.size : Int) > 100)) = false →
  ∃ a23 : Addr, p0 = some a23 ∧ (0 : Int) ≤ n3 ∧ n3 < (l0 : Int) ∧
  ∃ (p25 : Option Addr) (l25 c25 : Nat), w1.cell? (Addr.add (Addr.add a23 (n3.toNat * 4)) 3) = some (.slice p25 l25 c25) ∧
  ((decide ((l25 : Int) > 50)) = true →
  R (.bool true) w1) ∧
  ((decide ((l25 : Int) > 50)) = false →
  K [.int .i64 (IntKind.i64.wrap (n3 + 1))] w1))) ∧
  ((decide (n3 < (l0 : Int))) = false →
  R (.bool false) w1))
theorem revetmentlaw04_heavy_eq (p0 : Option Addr) (l0 c0 : Nat) (w : World) (R : Value → World → Prop) : revetmentlaw04_heavy p0 l0 c0 w R = fnP Try.prog Try.f24 (.s .o (.s .o (.s (.s .o (.b (.l [(3, .one (.int .i64))] .o))) .o))) [.slice p0 l0 c0] w R := by kernel_rfl
theorem revetmentlaw04_heavy_calls {p0 : Option Addr} {l0 c0 : Nat} {w : World} {R : Value → World → Prop} (h : revetmentlaw04_heavy p0 l0 c0 w R) : Calls Try.prog 24 #[.slice p0 l0 c0] w fun e w1 => ∃ v, e = .returned v ∧ R v w1 := fnP_calls callable Try.func24 (revetmentlaw04_heavy_eq p0 l0 c0 w R ▸ h)

/-- revetment/revetmentref04.New -/
def revetmentref04_New (n0 : Int) (w : World) (R : Value → World → Prop) : Prop :=
  ((decide (n0 < 1)) = true →
  R (.pointer none) w) ∧
  ((decide (n0 < 1)) = false →
  ((decide (n0 > 4096)) = true →
  R (.pointer none) w) ∧
  ((decide (n0 > 4096)) = false →
  Alloc #[.slice none 0 0, .slice none 0 0, .slice none 0 0, .bool false, .bool false, .int .i64 0] 48 w fun k13 w1 =>
  Calls Try.prog 23 #[] w1 fun e w2 => ∃ s14 : ByteArray, e = .returned (.string s14) ∧
  LoopP (fun I => I [.int .i64 0] w2) fun K vs w3 => ∃ n5 : Int, vs = [.int .i64 n5] ∧
  ((decide (n5 < n0)) = true →
  ∃ a22 : Addr, (some ⟨k13, 0, none⟩) = some a22 ∧
  ∃ (p24 : Option Addr) (l24 c24 : Nat), w3.cell? a22 = some (.slice p24 l24 c24) ∧
  Alloc #[.string s14] 9 w3 fun k26 w4 =>
  ∃ (p27 : Option Addr) (l27 c27 : Nat), ∃ w5, (builtin .append #[22, 22] 22 #[false, false] #[.slice p24 l24 c24, .slice (some ⟨k26, 0, none⟩) 1 1]).run Try.prog w4 = .ok (.value (.slice p27 l27 c27)) w5 ∧
  ∃ a28 : Addr, (some ⟨k13, 0, none⟩) = some a28 ∧
  St a28 (.slice p27 l27 c27) w5 fun w6 =>
  ∃ a32 : Addr, (some ⟨k13, 0, none⟩) = some a32 ∧
  ∃ (p34 : Option Addr) (l34 c34 : Nat), w6.cell? (a32.add 1) = some (.slice p34 l34 c34) ∧
  Alloc #[.slice none 0 0] 22 w6 fun k35 w7 =>
  ∃ (p36 : Option Addr) (l36 c36 : Nat), ∃ w8, (builtin .append #[45, 45] 45 #[false, false] #[.slice p34 l34 c34, .slice (some ⟨k35, 0, none⟩) 1 1]).run Try.prog w7 = .ok (.value (.slice p36 l36 c36)) w8 ∧
  ∃ a37 : Addr, (some ⟨k13, 0, none⟩) = some a37 ∧
  St (a37.add 1) (.slice p36 l36 c36) w8 fun w9 =>
  ∃ a41 : Addr, (some ⟨k13, 0, none⟩) = some a41 ∧
  ∃ (p43 : Option Addr) (l43 c43 : Nat), w9.cell? (a41.add 2) = some (.slice p43 l43 c43) ∧
  Alloc #[.bool false] 4 w9 fun k44 w10 =>
  ∃ (p45 : Option Addr) (l45 c45 : Nat), ∃ w11, (builtin .append #[46, 46] 46 #[false, false] #[.slice p43 l43 c43, .slice (some ⟨k44, 0, none⟩) 1 1]).run Try.prog w10 = .ok (.value (.slice p45 l45 c45)) w11 ∧
  ∃ a46 : Addr, (some ⟨k13, 0, none⟩) = some a46 ∧
  St (a46.add 2) (.slice p45 l45 c45) w11 fun w12 =>
  K [.int .i64 (IntKind.i64.wrap (n5 + 1))] w12) ∧
  ((decide (n5 < n0)) = false →
  R (.pointer (some ⟨k13, 0, none⟩)) w3)))
theorem revetmentref04_New_eq (n0 : Int) (w : World) (R : Value → World → Prop) : revetmentref04_New n0 w R = fnP Try.prog Try.f25 (.s .o (.s .o (.s .o (.s .o (.s (.s .o (.b (.l [(5, .one (.int .i64))] .o))) .o))))) [.int .i64 n0] w R := by kernel_rfl
theorem revetmentref04_New_calls {n0 : Int} {w : World} {R : Value → World → Prop} (h : revetmentref04_New n0 w R) : Calls Try.prog 25 #[.int .i64 n0] w fun e w1 => ∃ v, e = .returned v ∧ R v w1 := fnP_calls callable Try.func25 (revetmentref04_New_eq n0 w R ▸ h)

/-- (*revetment/revetmentref04.Drive).Write -/
def revetmentref04_Drive_Write (p0 : Option Addr) (n1 : Int) (s2 : ByteArray) (w : World) (R : Value → World → Prop) : Prop :=
  Calls Try.prog 51 #[.pointer p0, .int .i64 n1] w fun e w1 => ∃ n11 : Int, e = .returned (.int .i64 n11) ∧
  ((n11 != 0) = true →
  R (.int .i64 n11) w1) ∧
  ((n11 != 0) = false →
  (((s2.size : Int) != 64) = true →
  R (.int .i64 1) w1) ∧
  (((s2.size : Int) != 64) = false →
  Alloc #[] 9 w1 fun k18 w2 =>
  ∃ a21 : Addr, p0 = some a21 ∧
  ∃ (p23 : Option Addr) (l23 c23 : Nat), w2.cell? (a21.add 1) = some (.slice p23 l23 c23) ∧
  ∃ a25 : Addr, p23 = some a25 ∧ (0 : Int) ≤ n1 ∧ n1 < (l23 : Int) ∧
  ∃ (p26 : Option Addr) (l26 c26 : Nat), w2.cell? (Addr.add a25 (n1.toNat * 1)) = some (.slice p26 l26 c26) ∧
  ∃ (p27 : Option Addr) (l27 c27 : Nat), ∃ w3, (builtin .append #[22, 22] 22 #[false, false] #[.slice (some ⟨k18, 0, none⟩) 0 0, .slice p26 l26 c26]).run Try.prog w2 = .ok (.value (.slice p27 l27 c27)) w3 ∧
  ∃ D : World → Prop, D w3.drew ∧
  ∃ a29 : Addr, p0 = some a29 ∧
  ∃ (p31 : Option Addr) (l31 c31 : Nat), (∀ w, D w → w.cell? (a29.add 1) = some (.slice p31 l31 c31)) ∧
  Alloc #[.string s2] 9 w3.drew fun k35 w4 =>
  D w4 ∧
  ∃ (p36 : Option Addr) (l36 c36 : Nat), ∃ w5, (builtin .append #[22, 22] 22 #[false, false] #[.slice p27 l27 c27, .slice (some ⟨k35, 0, none⟩) 1 1]).run Try.prog w4 = .ok (.value (.slice p36 l36 c36)) w5 ∧
  D w5 ∧
  ∃ a37 : Addr, p31 = some a37 ∧ (0 : Int) ≤ n1 ∧ n1 < (l31 : Int) ∧
  St (Addr.add a37 (n1.toNat * 1)) (.slice p36 l36 c36) w5 fun w6 =>
  ∃ a39 : Addr, p0 = some a39 ∧
  ∃ (p41 : Option Addr) (l41 c41 : Nat), w6.cell? (a39.add 2) = some (.slice p41 l41 c41) ∧
  ∃ a43 : Addr, p41 = some a43 ∧ (0 : Int) ≤ n1 ∧ n1 < (l41 : Int) ∧
  St (Addr.add a43 (n1.toNat * 1)) (.bool false) w6 fun w7 =>
  Calls Try.prog 52 #[.pointer p0] w7 fun e_1 w8 => e_1 = .returned (.tuple #[]) ∧
  R (.int .i64 0) w8))
theorem revetmentref04_Drive_Write_eq (p0 : Option Addr) (n1 : Int) (s2 : ByteArray) (w : World) (R : Value → World → Prop) : revetmentref04_Drive_Write p0 n1 s2 w R = fnP Try.prog Try.f26 .o [.pointer p0, .int .i64 n1, .string s2] w R := by kernel_rfl
theorem revetmentref04_Drive_Write_calls {p0 : Option Addr} {n1 : Int} {s2 : ByteArray} {w : World} {R : Value → World → Prop} (h : revetmentref04_Drive_Write p0 n1 s2 w R) : Calls Try.prog 26 #[.pointer p0, .int .i64 n1, .string s2] w fun e w1 => ∃ v, e = .returned v ∧ R v w1 := fnP_calls callable Try.func26 (revetmentref04_Drive_Write_eq p0 n1 s2 w R ▸ h)

/-- (*revetment/revetmentref04.Drive).Flush -/
def revetmentref04_Drive_Flush (p0 : Option Addr) (w : World) (R : Value → World → Prop) : Prop :=
  ∃ a5 : Addr, p0 = some a5 ∧
  ∃ b7 : Bool, w.cell? (a5.add 3) = some (.bool b7) ∧
  (b7 = true →
  R (.int .i64 40) w) ∧
  (b7 = false →
  Calls Try.prog 53 #[.pointer p0] w fun e w1 => ∃ b9 : Bool, e = .returned (.bool b9) ∧
  (b9 = true →
  R (.int .i64 42) w1) ∧
  (b9 = false →
  Calls Try.prog 52 #[.pointer p0] w1 fun e_1 w2 => e_1 = .returned (.tuple #[]) ∧
  LoopP (fun I => I [.int .i64 0] w2) fun K vs w3 => ∃ n3 : Int, vs = [.int .i64 n3] ∧
  ∃ a14 : Addr, p0 = some a14 ∧
  ∃ (p16 : Option Addr) (l16 c16 : Nat), w3.cell? (a14.add 1) = some (.slice p16 l16 c16) ∧
  ((decide (n3 < (l16 : Int))) = true →
  ∃ a24 : Addr, p0 = some a24 ∧
  ∃ (p26 : Option Addr) (l26 c26 : Nat), w3.cell? (a24.add 1) = some (.slice p26 l26 c26) ∧
  ∃ a28 : Addr, p26 = some a28 ∧ (0 : Int) ≤ n3 ∧ n3 < (l26 : Int) ∧
  ∃ (p29 : Option Addr) (l29 c29 : Nat), w3.cell? (Addr.add a28 (n3.toNat * 1)) = some (.slice p29 l29 c29) ∧
  Calls Try.prog 54 #[.pointer p0, .int .i64 n3, .int .i64 (l29 : Int)] w3 fun e_2 w4 => e_2 = .returned (.tuple #[]) ∧
  K [.int .i64 (IntKind.i64.wrap (n3 + 1))] w4) ∧
  ((decide (n3 < (l16 : Int))) = false →
  R (.int .i64 0) w3)))
theorem revetmentref04_Drive_Flush_eq (p0 : Option Addr) (w : World) (R : Value → World → Prop) : revetmentref04_Drive_Flush p0 w R = fnP Try.prog Try.f27 (.s .o (.s .o (.s .o (.s .o (.s (.s .o (.b (.l [(3, .one (.int .i64))] .o))) .o))))) [.pointer p0] w R := by kernel_rfl
theorem revetmentref04_Drive_Flush_calls {p0 : Option Addr} {w : World} {R : Value → World → Prop} (h : revetmentref04_Drive_Flush p0 w R) : Calls Try.prog 27 #[.pointer p0] w fun e w1 => ∃ v, e = .returned v ∧ R v w1 := fnP_calls callable Try.func27 (revetmentref04_Drive_Flush_eq p0 w R ▸ h)

/-- (*revetment/drive.Drive).Die -/
def drive_Drive_Die (p0 : Option Addr) (w : World) (R : Value → World → Prop) : Prop :=
  ∃ a3 : Addr, p0 = some a3 ∧
  St (a3.add 3) (.bool true) w fun w1 =>
  R (.tuple #[]) w1
theorem drive_Drive_Die_eq (p0 : Option Addr) (w : World) (R : Value → World → Prop) : drive_Drive_Die p0 w R = fnP Try.prog Try.f28 .o [.pointer p0] w R := by kernel_rfl
theorem drive_Drive_Die_calls {p0 : Option Addr} {w : World} {R : Value → World → Prop} (h : drive_Drive_Die p0 w R) : Calls Try.prog 28 #[.pointer p0] w fun e w1 => ∃ v, e = .returned v ∧ R v w1 := fnP_calls callable Try.func28 (drive_Drive_Die_eq p0 w R ▸ h)

/-- revetment/revetmentlaw04.does -/
def revetmentlaw04_does (p0 : Option Addr) (p1 : Option Addr) (n2_0 : Int) (n2_1 : Int) (s2_2 : ByteArray) (p2_3 : Option Addr) (l2_3 c2_3 : Nat) (w : World) (R : Value → World → Prop) : Prop :=
  Alloc #[.int .i64 n2_0, .int .i64 n2_1, .string s2_2, .slice p2_3 l2_3 c2_3] 51 w fun k5 w1 =>
  ∃ n16 : Int, w1.cell? ⟨k5, 0, none⟩ = some (.int .i64 n16) ∧
  ((n16 == 0) = true →
  ∃ D : World → Prop, D w1.drew ∧
  ∃ n21 : Int, (∀ w, D w → w.cell? ⟨k5, 1, none⟩ = some (.int .i64 n21)) ∧
  ∃ s23 : ByteArray, (∀ w, D w → w.cell? ⟨k5, 2, none⟩ = some (.string s23)) ∧
  Calls Try.prog 15 #[.string s23] w1.drew fun e w2 => ∃ s24 : ByteArray, e = .returned (.string s24) ∧
  D w2 ∧
  Calls Try.prog 14 #[.pointer p0, .int .i64 n21, .string s24] w2 fun e_1 w3 => ∃ n25 : Int, e_1 = .returned (.int .i64 n25) ∧
  D w3 ∧
  ∃ n28 : Int, (∀ w, D w → w.cell? ⟨k5, 1, none⟩ = some (.int .i64 n28)) ∧
  ∃ s30 : ByteArray, (∀ w, D w → w.cell? ⟨k5, 2, none⟩ = some (.string s30)) ∧
  Calls Try.prog 15 #[.string s30] w3 fun e_2 w4 => ∃ s31 : ByteArray, e_2 = .returned (.string s31) ∧
  D w4 ∧
  Calls Try.prog 26 #[.pointer p1, .int .i64 n28, .string s31] w4 fun e_3 w5 => ∃ n32 : Int, e_3 = .returned (.int .i64 n32) ∧
  D w5 ∧
  R (.bool (n25 == n32)) w5) ∧
  ((n16 == 0) = false →
  ((n16 == 1) = true →
  ∃ D_1 : World → Prop, D_1 w1.drew ∧
  ∃ n38 : Int, (∀ w, D_1 w → w.cell? ⟨k5, 1, none⟩ = some (.int .i64 n38)) ∧
  ∃ s40 : ByteArray, (∀ w, D_1 w → w.cell? ⟨k5, 2, none⟩ = some (.string s40)) ∧
  Calls Try.prog 14 #[.pointer p0, .int .i64 n38, .string s40] w1.drew fun e_4 w6 => ∃ n41 : Int, e_4 = .returned (.int .i64 n41) ∧
  D_1 w6 ∧
  ∃ n44 : Int, (∀ w, D_1 w → w.cell? ⟨k5, 1, none⟩ = some (.int .i64 n44)) ∧
  ∃ s46 : ByteArray, (∀ w, D_1 w → w.cell? ⟨k5, 2, none⟩ = some (.string s46)) ∧
  Calls Try.prog 26 #[.pointer p1, .int .i64 n44, .string s46] w6 fun e_5 w7 => ∃ n47 : Int, e_5 = .returned (.int .i64 n47) ∧
  D_1 w7 ∧
  R (.bool (n41 == n47)) w7) ∧
  ((n16 == 1) = false →
  ((n16 == 2) = true →
  ∃ n54 : Int, w1.cell? ⟨k5, 1, none⟩ = some (.int .i64 n54) ∧
  Calls Try.prog 18 #[.pointer p0, .int .i64 n54] w1 fun e_6 w8 => ∃ s55_0 : ByteArray, ∃ n55_1 : Int, e_6 = .returned (.tuple #[.string s55_0, .int .i64 n55_1]) ∧
  ∃ n61 : Int, w8.cell? ⟨k5, 1, none⟩ = some (.int .i64 n61) ∧
  Calls Try.prog 55 #[.pointer p1, .int .i64 n61] w8 fun e_7 w9 => ∃ s62_0 : ByteArray, ∃ n62_1 : Int, e_7 = .returned (.tuple #[.string s62_0, .int .i64 n62_1]) ∧
  ((s55_0.toList == s62_0.toList) = true →
  R (.bool (n55_1 == n62_1)) w9) ∧
  ((s55_0.toList == s62_0.toList) = false →
  R (.bool false) w9)) ∧
  ((n16 == 2) = false →
  ((n16 == 3) = true →
  Calls Try.prog 16 #[.pointer p0] w1 fun e_8 w10 => ∃ n76 : Int, e_8 = .returned (.int .i64 n76) ∧
  Calls Try.prog 27 #[.pointer p1] w10 fun e_9 w11 => ∃ n78 : Int, e_9 = .returned (.int .i64 n78) ∧
  R (.bool (n76 == n78)) w11) ∧
  ((n16 == 3) = false →
  ((n16 == 4) = true →
  ∃ (p84 : Option Addr) (l84 c84 : Nat), w1.cell? ⟨k5, 3, none⟩ = some (.slice p84 l84 c84) ∧
  Calls Try.prog 17 #[.pointer p0, .slice p84 l84 c84] w1 fun e_10 w12 => e_10 = .returned (.tuple #[]) ∧
  ∃ (p88 : Option Addr) (l88 c88 : Nat), w12.cell? ⟨k5, 3, none⟩ = some (.slice p88 l88 c88) ∧
  Calls Try.prog 42 #[.pointer p1, .slice p88 l88 c88] w12 fun e_11 w13 => e_11 = .returned (.tuple #[]) ∧
  R (.bool true) w13) ∧
  ((n16 == 4) = false →
  ((n16 == 5) = true →
  ∃ D_2 : World → Prop, D_2 w1.drew ∧
  ∃ n94 : Int, (∀ w, D_2 w → w.cell? ⟨k5, 1, none⟩ = some (.int .i64 n94)) ∧
  Calls Try.prog 21 #[.pointer p0, .int .i64 n94] w1.drew fun e_12 w14 => ∃ n95 : Int, e_12 = .returned (.int .i64 n95) ∧
  D_2 w14 ∧
  ∃ n98 : Int, (∀ w, D_2 w → w.cell? ⟨k5, 1, none⟩ = some (.int .i64 n98)) ∧
  Calls Try.prog 41 #[.pointer p1, .int .i64 n98] w14 fun e_13 w15 => ∃ n99 : Int, e_13 = .returned (.int .i64 n99) ∧
  D_2 w15 ∧
  R (.bool (n95 == n99)) w15) ∧
  ((n16 == 5) = false →
  ((n16 == 6) = true →
  ∃ D_3 : World → Prop, D_3 w1.drew ∧
  ∃ n105 : Int, (∀ w, D_3 w → w.cell? ⟨k5, 1, none⟩ = some (.int .i64 n105)) ∧
  ∃ s107 : ByteArray, (∀ w, D_3 w → w.cell? ⟨k5, 2, none⟩ = some (.string s107)) ∧
  Calls Try.prog 15 #[.string s107] w1.drew fun e_14 w16 => ∃ s108 : ByteArray, e_14 = .returned (.string s108) ∧
  D_3 w16 ∧
  Calls Try.prog 30 #[.pointer p0, .int .i64 n105, .string s108] w16 fun e_15 w17 => ∃ n109 : Int, e_15 = .returned (.int .i64 n109) ∧
  D_3 w17 ∧
  ∃ n112 : Int, (∀ w, D_3 w → w.cell? ⟨k5, 1, none⟩ = some (.int .i64 n112)) ∧
  ∃ s114 : ByteArray, (∀ w, D_3 w → w.cell? ⟨k5, 2, none⟩ = some (.string s114)) ∧
  Calls Try.prog 15 #[.string s114] w17 fun e_16 w18 => ∃ s115 : ByteArray, e_16 = .returned (.string s115) ∧
  D_3 w18 ∧
  Calls Try.prog 56 #[.pointer p1, .int .i64 n112, .string s115] w18 fun e_17 w19 => ∃ n116 : Int, e_17 = .returned (.int .i64 n116) ∧
  D_3 w19 ∧
  R (.bool (n109 == n116)) w19) ∧
  ((n16 == 6) = false →
  ((n16 == 7) = true →
  Calls Try.prog 28 #[.pointer p0] w1 fun e_18 w20 => e_18 = .returned (.tuple #[]) ∧
  ∃ a123 : Addr, p1 = some a123 ∧
  St (a123.add 3) (.bool true) w20 fun w21 =>
  R (.bool true) w21) ∧
  ((n16 == 7) = false →
  ((n16 == 9) = true →
  ∃ n129 : Int, w1.cell? ⟨k5, 1, none⟩ = some (.int .i64 n129) ∧
  Calls Try.prog 20 #[.pointer p0, .int .i64 n129] w1 fun e_19 w22 => e_19 = .returned (.tuple #[]) ∧
  ∃ n133 : Int, w22.cell? ⟨k5, 1, none⟩ = some (.int .i64 n133) ∧
  Calls Try.prog 57 #[.pointer p1, .int .i64 n133] w22 fun e_20 w23 => e_20 = .returned (.tuple #[]) ∧
  R (.bool true) w23) ∧
  ((n16 == 9) = false →
  ((n16 == 8) = true →
  ∃ n140 : Int, w1.cell? ⟨k5, 1, none⟩ = some (.int .i64 n140) ∧
  Calls Try.prog 22 #[.pointer p0, .int .i64 n140] w1 fun e_21 w24 => ∃ s141_0 : ByteArray, ∃ n141_1 : Int, e_21 = .returned (.tuple #[.string s141_0, .int .i64 n141_1]) ∧
  ∃ n147 : Int, w24.cell? ⟨k5, 1, none⟩ = some (.int .i64 n147) ∧
  Calls Try.prog 58 #[.pointer p1, .int .i64 n147] w24 fun e_22 w25 => ∃ s148_0 : ByteArray, ∃ n148_1 : Int, e_22 = .returned (.tuple #[.string s148_0, .int .i64 n148_1]) ∧
  ((s141_0.toList == s148_0.toList) = true →
  R (.bool (n141_1 == n148_1)) w25) ∧
  ((s141_0.toList == s148_0.toList) = false →
  R (.bool false) w25)) ∧
  ((n16 == 8) = false →
  R (.bool true) w1))))))))))
theorem revetmentlaw04_does_eq (p0 : Option Addr) (p1 : Option Addr) (n2_0 : Int) (n2_1 : Int) (s2_2 : ByteArray) (p2_3 : Option Addr) (l2_3 c2_3 : Nat) (w : World) (R : Value → World → Prop) : revetmentlaw04_does p0 p1 n2_0 n2_1 s2_2 p2_3 l2_3 c2_3 w R = fnP Try.prog Try.f29 .o [.pointer p0, .pointer p1, .agg #[.int .i64 n2_0, .int .i64 n2_1, .string s2_2, .slice p2_3 l2_3 c2_3]] w R := by kernel_rfl
theorem revetmentlaw04_does_calls {p0 : Option Addr} {p1 : Option Addr} {n2_0 : Int} {n2_1 : Int} {s2_2 : ByteArray} {p2_3 : Option Addr} {l2_3 c2_3 : Nat} {w : World} {R : Value → World → Prop} (h : revetmentlaw04_does p0 p1 n2_0 n2_1 s2_2 p2_3 l2_3 c2_3 w R) : Calls Try.prog 29 #[.pointer p0, .pointer p1, .agg #[.int .i64 n2_0, .int .i64 n2_1, .string s2_2, .slice p2_3 l2_3 c2_3]] w fun e w1 => ∃ v, e = .returned v ∧ R v w1 := fnP_calls callable Try.func29 (revetmentlaw04_does_eq p0 p1 n2_0 n2_1 s2_2 p2_3 l2_3 c2_3 w R ▸ h)

/-- (*revetment/drive.Drive).Change -/
def drive_Drive_Change (p0 : Option Addr) (n1 : Int) (s2 : ByteArray) (w : World) (R : Value → World → Prop) : Prop :=
  Alloc #[.pointer p0] 24 w fun k3 w1 =>
  Alloc #[.int .i64 n1] 3 w1 fun k4 w2 =>
  ∃ p7 : Option Addr, w2.cell? ⟨k3, 0, none⟩ = some (.pointer p7) ∧
  ∃ n8 : Int, w2.cell? ⟨k4, 0, none⟩ = some (.int .i64 n8) ∧
  Calls Try.prog 44 #[.pointer p7, .int .i64 n8, .string s2, .func (.func 59) #[] #[.pointer (some ⟨k3, 0, none⟩), .pointer (some ⟨k4, 0, none⟩)]] w2 fun e w3 => ∃ n11 : Int, e = .returned (.int .i64 n11) ∧
  R (.int .i64 n11) w3
theorem drive_Drive_Change_eq (p0 : Option Addr) (n1 : Int) (s2 : ByteArray) (w : World) (R : Value → World → Prop) : drive_Drive_Change p0 n1 s2 w R = fnP Try.prog Try.f30 .o [.pointer p0, .int .i64 n1, .string s2] w R := by kernel_rfl
theorem drive_Drive_Change_calls {p0 : Option Addr} {n1 : Int} {s2 : ByteArray} {w : World} {R : Value → World → Prop} (h : drive_Drive_Change p0 n1 s2 w R) : Calls Try.prog 30 #[.pointer p0, .int .i64 n1, .string s2] w fun e w1 => ∃ v, e = .returned v ∧ R v w1 := fnP_calls callable Try.func30 (drive_Drive_Change_eq p0 n1 s2 w R ▸ h)

/-- (*revetment/drive.Drive).Dead -/
def drive_Drive_Dead (p0 : Option Addr) (w : World) (R : Value → World → Prop) : Prop :=
  ∃ a4 : Addr, p0 = some a4 ∧
  ∃ b6 : Bool, w.cell? (a4.add 3) = some (.bool b6) ∧
  R (.bool b6) w
theorem drive_Drive_Dead_eq (p0 : Option Addr) (w : World) (R : Value → World → Prop) : drive_Drive_Dead p0 w R = fnP Try.prog Try.f31 .o [.pointer p0] w R := by kernel_rfl
theorem drive_Drive_Dead_calls {p0 : Option Addr} {w : World} {R : Value → World → Prop} (h : drive_Drive_Dead p0 w R) : Calls Try.prog 31 #[.pointer p0] w fun e w1 => ∃ v, e = .returned v ∧ R v w1 := fnP_calls callable Try.func31 (drive_Drive_Dead_eq p0 w R ▸ h)

/-- (*revetment/revetmentref04.Drive).Spoil -/
def revetmentref04_Drive_Spoil (p0 : Option Addr) (n1 : Int) (w : World) (R : Value → World → Prop) : Prop :=
  Calls Try.prog 51 #[.pointer p0, .int .i64 n1] w fun e w1 => ∃ n8 : Int, e = .returned (.int .i64 n8) ∧
  ((n8 == 0) = true →
  ∃ a12 : Addr, p0 = some a12 ∧
  ∃ (p14 : Option Addr) (l14 c14 : Nat), w1.cell? (a12.add 2) = some (.slice p14 l14 c14) ∧
  ∃ a16 : Addr, p14 = some a16 ∧ (0 : Int) ≤ n1 ∧ n1 < (l14 : Int) ∧
  St (Addr.add a16 (n1.toNat * 1)) (.bool true) w1 fun w2 =>
  R (.int .i64 n8) w2) ∧
  ((n8 == 0) = false →
  R (.int .i64 n8) w1)
theorem revetmentref04_Drive_Spoil_eq (p0 : Option Addr) (n1 : Int) (w : World) (R : Value → World → Prop) : revetmentref04_Drive_Spoil p0 n1 w R = fnP Try.prog Try.f41 .o [.pointer p0, .int .i64 n1] w R := by kernel_rfl
theorem revetmentref04_Drive_Spoil_calls {p0 : Option Addr} {n1 : Int} {w : World} {R : Value → World → Prop} (h : revetmentref04_Drive_Spoil p0 n1 w R) : Calls Try.prog 41 #[.pointer p0, .int .i64 n1] w fun e w1 => ∃ v, e = .returned v ∧ R v w1 := fnP_calls callable Try.func41 (revetmentref04_Drive_Spoil_eq p0 n1 w R ▸ h)

/-- (*revetment/revetmentref04.Drive).Crash -/
def revetmentref04_Drive_Crash (p0 : Option Addr) (p1 : Option Addr) (l1 c1 : Nat) (w : World) (R : Value → World → Prop) : Prop :=
  ∃ a9 : Addr, p0 = some a9 ∧
  St (a9.add 4) (.bool false) w fun w1 =>
  LoopP (fun I => I [.int .i64 0, .int .i64 0] w1) fun K vs w2 => ∃ n4 : Int, ∃ n5 : Int, vs = [.int .i64 n4, .int .i64 n5] ∧
  ∃ a13 : Addr, p0 = some a13 ∧
  ∃ (p15 : Option Addr) (l15 c15 : Nat), w2.cell? (a13.add 1) = some (.slice p15 l15 c15) ∧
  ((decide (n5 < (l15 : Int))) = true →
  ∃ a21 : Addr, p0 = some a21 ∧
  ∃ (p23 : Option Addr) (l23 c23 : Nat), w2.cell? (a21.add 1) = some (.slice p23 l23 c23) ∧
  ∃ a25 : Addr, p23 = some a25 ∧ (0 : Int) ≤ n5 ∧ n5 < (l23 : Int) ∧
  ∃ (p26 : Option Addr) (l26 c26 : Nat), w2.cell? (Addr.add a25 (n5.toNat * 1)) = some (.slice p26 l26 c26) ∧
  (((l26 : Int) == 0) = true →
  K [.int .i64 n4, .int .i64 (IntKind.i64.wrap (n5 + 1))] w2) ∧
  (((l26 : Int) == 0) = false →
  Join (fun vs_1 w3 => ∃ n7 : Int, vs_1 = [.int .i64 n7] ∧
  Calls Try.prog 54 #[.pointer p0, .int .i64 n5, .int .i64 n7] w3 fun e w4 => e = .returned (.tuple #[]) ∧
  K [.int .i64 (IntKind.i64.wrap (n4 + 1)), .int .i64 (IntKind.i64.wrap (n5 + 1))] w4) fun J =>
  ((decide ((l1 : Int) > 0)) = true →
  (l1 : Int) ≠ 0 ∧
  ∃ a38 : Addr, p1 = some a38 ∧ (0 : Int) ≤ Int.tmod n4 (l1 : Int) ∧ (Int.tmod n4 (l1 : Int)) < (l1 : Int) ∧
  ∃ n39 : Int, w2.cell? (Addr.add a38 ((Int.tmod n4 (l1 : Int)).toNat * 1)) = some (.int .u8 n39) ∧
  (IntKind.i64.wrap ((l26 : Int) + 1)) ≠ 0 ∧
  J [.int .i64 (Int.tmod (IntKind.i64.wrap n39) (IntKind.i64.wrap ((l26 : Int) + 1)))] w2) ∧
  ((decide ((l1 : Int) > 0)) = false →
  J [.int .i64 0] w2))) ∧
  ((decide (n5 < (l15 : Int))) = false →
  R (.tuple #[]) w2)
theorem revetmentref04_Drive_Crash_eq (p0 : Option Addr) (p1 : Option Addr) (l1 c1 : Nat) (w : World) (R : Value → World → Prop) : revetmentref04_Drive_Crash p0 p1 l1 c1 w R = fnP Try.prog Try.f42 (.s .o (.s .o (.s .o (.b (.l [(4, .one (.int .i64)), (5, .one (.int .i64))] (.s .o (.s (.b (.s .o (.s .o (.s .o (.j [(7, .one (.int .i64))] .o .o))))) .o))))))) [.pointer p0, .slice p1 l1 c1] w R := by kernel_rfl
theorem revetmentref04_Drive_Crash_calls {p0 : Option Addr} {p1 : Option Addr} {l1 c1 : Nat} {w : World} {R : Value → World → Prop} (h : revetmentref04_Drive_Crash p0 p1 l1 c1 w R) : Calls Try.prog 42 #[.pointer p0, .slice p1 l1 c1] w fun e w1 => ∃ v, e = .returned v ∧ R v w1 := fnP_calls callable Try.func42 (revetmentref04_Drive_Crash_eq p0 p1 l1 c1 w R ▸ h)

/-- (*revetment/drive.Drive).put -/
def drive_Drive_put (p0 : Option Addr) (n1 : Int) (s2 : ByteArray) (v3 : Value) (w : World) (R : Value → World → Prop) : Prop :=
  Calls Try.prog 50 #[.pointer p0, .int .i64 n1] w fun e w1 => ∃ n12 : Int, e = .returned (.int .i64 n12) ∧
  Join (fun vs w2 => ∃ n9 : Int, vs = [.int .i64 n9] ∧
  ((n9 == 0) = true →
  ∃ (p24 : Option Addr) (l24 c24 : Nat), ∃ w3, (convert 9 30 (.string s2)).run Try.prog w2 = .ok (.slice p24 l24 c24) w3 ∧
  ∃ a25 : Addr, ∃ w4, (Instr.arrayAt 88 (.slice p24 l24 c24)).run Try.prog w3 = .ok (.pointer (some a25)) w4 ∧
  ∃ z26 : Array Value, z26.size = 64 ∧ bigAt w4 a25 z26 ∧
  CallF Try.prog v3 [.agg z26] w4 fun e_1 w5 => e_1 = .returned (.tuple #[]) ∧
  R (.int .i64 n9) w5) ∧
  ((n9 == 0) = false →
  R (.int .i64 n9) w2)) fun J =>
  ((n12 == 0) = true →
  (((s2.size : Int) != 64) = true →
  J [.int .i64 1] w1) ∧
  (((s2.size : Int) != 64) = false →
  J [.int .i64 n12] w1)) ∧
  ((n12 == 0) = false →
  J [.int .i64 n12] w1)
theorem drive_Drive_put_eq (p0 : Option Addr) (n1 : Int) (s2 : ByteArray) (v3 : Value) (w : World) (R : Value → World → Prop) : drive_Drive_put p0 n1 s2 v3 w R = fnP Try.prog Try.f44 (.s .o (.s .o (.j [(9, .one (.int .i64))] .o .o))) [.pointer p0, .int .i64 n1, .string s2, v3] w R := by kernel_rfl
theorem drive_Drive_put_calls {p0 : Option Addr} {n1 : Int} {s2 : ByteArray} {v3 : Value} {w : World} {R : Value → World → Prop} (h : drive_Drive_put p0 n1 s2 v3 w R) : Calls Try.prog 44 #[.pointer p0, .int .i64 n1, .string s2, v3] w fun e w1 => ∃ v, e = .returned v ∧ R v w1 := fnP_calls callable Try.func44 (drive_Drive_put_eq p0 n1 s2 v3 w R ▸ h)

/-- (*revetment/drive.Drive).Write$1 -/
def drive_Drive_Write_1 (z0 : Array Value) (k1 : Addr) (k2 : Addr) (w : World) (R : Value → World → Prop) : Prop :=
  Alloc z0 88 w fun k3 w1 =>
  ∃ D : World → Prop, D w1.drew ∧
  ∃ p4 : Option Addr, (∀ w, D w → w.cell? k1 = some (.pointer p4)) ∧
  ∃ a5 : Addr, p4 = some a5 ∧
  ∃ m7 : Option Nat, (∀ w, D w → w.cell? (a5.add 1) = some (.map m7)) ∧
  ∃ n8 : Int, (∀ w, D w → w.cell? k2 = some (.int .i64 n8)) ∧
  ∃ p9 : Option Addr, (∀ w, D w → w.cell? k1 = some (.pointer p9)) ∧
  ∃ a10 : Addr, p9 = some a10 ∧
  ∃ m12 : Option Nat, (∀ w, D w → w.cell? (a10.add 1) = some (.map m12)) ∧
  ∃ n13 : Int, (∀ w, D w → w.cell? k2 = some (.int .i64 n13)) ∧
  ∃ (p14 : Option Addr) (l14 c14 : Nat), (∀ w, D w → (Instr.lookup 82 (.map m12) (.int .i64 n13) false).run Try.prog w = .ok (.slice p14 l14 c14) w) ∧
  ∃ z15 : Array Value, z15.size = 64 ∧ (∀ w, D w → bigAt w ⟨k3, 0, none⟩ z15) ∧
  ∃ (p16 : Option Addr) (l16 c16 : Nat), ∃ w2, (Instr.buildSlice 81 1 #[(0, .agg z15)]).run Try.prog w1.drew = .ok (.slice p16 l16 c16) w2 ∧
  D w2 ∧
  ∃ (p17 : Option Addr) (l17 c17 : Nat), ∃ w3, (builtin .append #[81, 81] 81 #[false, false] #[.slice p14 l14 c14, .slice p16 l16 c16]).run Try.prog w2 = .ok (.value (.slice p17 l17 c17)) w3 ∧
  D w3 ∧
  ∃ w4, (Instr.mapUpdate 82 (.map m7) (.int .i64 n8) (.slice p17 l17 c17)).run Try.prog w3 = .ok () w4 ∧
  ∃ D_1 : World → Prop, D_1 w4.drew ∧
  ∃ p18 : Option Addr, (∀ w, D_1 w → w.cell? k1 = some (.pointer p18)) ∧
  ∃ a19 : Addr, p18 = some a19 ∧
  ∃ m21 : Option Nat, (∀ w, D_1 w → w.cell? (a19.add 2) = some (.map m21)) ∧
  ∃ n22 : Int, (∀ w, D_1 w → w.cell? k2 = some (.int .i64 n22)) ∧
  ∃ w5, (builtin .delete #[83, 3] 0 #[false, false] #[.map m21, .int .i64 n22]).run Try.prog w4.drew = .ok (.value (.tuple #[])) w5 ∧
  ∃ p23 : Option Addr, w5.cell? k1 = some (.pointer p23) ∧
  ∃ a24 : Addr, p23 = some a24 ∧
  ∃ n26 : Int, w5.cell? (a24.add 4) = some (.int .i64 n26) ∧
  ∃ a28 : Addr, p23 = some a28 ∧
  St (a28.add 4) (.int .i64 (IntKind.i64.wrap (n26 - 1))) w5 fun w6 =>
  R (.tuple #[]) w6
theorem drive_Drive_Write_1_eq (z0 : Array Value) (k1 : Addr) (k2 : Addr) (w : World) (R : Value → World → Prop) : drive_Drive_Write_1 z0 k1 k2 w R = fnP Try.prog Try.f45 .o [.agg z0, .pointer (some k1), .pointer (some k2)] w R := by kernel_rfl
theorem drive_Drive_Write_1_calls {z0 : Array Value} {k1 : Addr} {k2 : Addr} {w : World} {R : Value → World → Prop} (h : drive_Drive_Write_1 z0 k1 k2 w R) : Calls Try.prog 45 #[.agg z0, .pointer (some k1), .pointer (some k2)] w fun e w1 => ∃ v, e = .returned v ∧ R v w1 := fnP_calls callable Try.func45 (drive_Drive_Write_1_eq z0 k1 k2 w R ▸ h)

/-- (*revetment/drive.Drive).off -/
def drive_Drive_off (p0 : Option Addr) (w : World) (R : Value → World → Prop) : Prop :=
  ∃ a4 : Addr, p0 = some a4 ∧
  ∃ b6 : Bool, w.cell? (a4.add 5) = some (.bool b6) ∧
  (b6 = true →
  ∃ a9 : Addr, p0 = some a9 ∧
  ∃ n11 : Int, w.cell? (a9.add 4) = some (.int .i64 n11) ∧
  R (.bool (n11 == 0)) w) ∧
  (b6 = false →
  R (.bool false) w)
theorem drive_Drive_off_eq (p0 : Option Addr) (w : World) (R : Value → World → Prop) : drive_Drive_off p0 w R = fnP Try.prog Try.f46 .o [.pointer p0] w R := by kernel_rfl
theorem drive_Drive_off_calls {p0 : Option Addr} {w : World} {R : Value → World → Prop} (h : drive_Drive_off p0 w R) : Calls Try.prog 46 #[.pointer p0] w fun e w1 => ∃ v, e = .returned v ∧ R v w1 := fnP_calls callable Try.func46 (drive_Drive_off_eq p0 w R ▸ h)

/-- (*revetment/drive.Drive).settle -/
def drive_Drive_settle (p0 : Option Addr) (v1 : Value) (w : World) (R : Value → World → Prop) : Prop :=
  ∃ a9 : Addr, p0 = some a9 ∧
  ∃ m11 : Option Nat, w.cell? (a9.add 1) = some (.map m11) ∧
  Calls Try.prog 71 #[.map m11] w fun e w1 => ∃ v12 : Value, e = .returned v12 ∧
  Calls Try.prog 70 #[v12] w1 fun e_1 w2 => ∃ (p13 : Option Addr) (l13 c13 : Nat), e_1 = .returned (.slice p13 l13 c13) ∧
  LoopP (fun I => I [.int .i64 0] w2) fun K vs w3 => ∃ n15 : Int, vs = [.int .i64 n15] ∧
  ((decide (n15 < (l13 : Int))) = true →
  ∃ a18 : Addr, p13 = some a18 ∧ (0 : Int) ≤ n15 ∧ n15 < (l13 : Int) ∧
  ∃ n19 : Int, w3.cell? (Addr.add a18 (n15.toNat * 1)) = some (.int .i64 n19) ∧
  ∃ a21 : Addr, p0 = some a21 ∧
  ∃ m23 : Option Nat, w3.cell? (a21.add 1) = some (.map m23) ∧
  ∃ (p25 : Option Addr) (l25 c25 : Nat), ∃ w4, (Instr.lookup 82 (.map m23) (.int .i64 n19) false).run Try.prog w3 = .ok (.slice p25 l25 c25) w4 ∧
  CallF Try.prog v1 [.int .i64 n15, .int .i64 (l25 : Int)] w4 fun e_2 w5 => ∃ n30 : Int, e_2 = .returned (.int .i64 n30) ∧
  ((decide (n30 > 0)) = true →
  ∃ D : World → Prop, D w5.drew ∧
  ∃ a34 : Addr, p0 = some a34 ∧
  ∃ (p36 : Option Addr) (l36 c36 : Nat), (∀ w, D w → w.cell? a34 = some (.slice p36 l36 c36)) ∧
  ∃ a41 : Addr, p25 = some a41 ∧ (0 : Int) ≤ IntKind.i64.wrap (n30 - 1) ∧ (IntKind.i64.wrap (n30 - 1)) < (l25 : Int) ∧
  ∃ z42 : Array Value, z42.size = 64 ∧ (∀ w, D w → bigAt w (Addr.add a41 ((IntKind.i64.wrap (n30 - 1)).toNat * 64)) z42) ∧
  ∃ a43 : Addr, p36 = some a43 ∧ (0 : Int) ≤ n19 ∧ n19 < (l36 : Int) ∧
  ∃ w6, (Instr.storeAt 88 (.pointer (some (Addr.add a43 (n19.toNat * 64)))) (.agg z42)).run Try.prog w5.drew = .ok () w6 ∧
  K [.int .i64 (IntKind.i64.wrap (n15 + 1))] w6) ∧
  ((decide (n30 > 0)) = false →
  K [.int .i64 (IntKind.i64.wrap (n15 + 1))] w5)) ∧
  ((decide (n15 < (l13 : Int))) = false →
  ∃ a46 : Addr, p0 = some a46 ∧
  ∃ m48 : Option Nat, w3.cell? (a46.add 1) = some (.map m48) ∧
  ∃ w7, (builtin .clear #[82] 0 #[false] #[.map m48]).run Try.prog w3 = .ok (.value (.tuple #[])) w7 ∧
  R (.tuple #[]) w7)
theorem drive_Drive_settle_eq (p0 : Option Addr) (v1 : Value) (w : World) (R : Value → World → Prop) : drive_Drive_settle p0 v1 w R = fnP Try.prog Try.f47 (.s (.s .o (.b (.l [(15, .one (.int .i64))] .o))) .o) [.pointer p0, v1] w R := by kernel_rfl
theorem drive_Drive_settle_calls {p0 : Option Addr} {v1 : Value} {w : World} {R : Value → World → Prop} (h : drive_Drive_settle p0 v1 w R) : Calls Try.prog 47 #[.pointer p0, v1] w fun e w1 => ∃ v, e = .returned v ∧ R v w1 := fnP_calls callable Try.func47 (drive_Drive_settle_eq p0 v1 w R ▸ h)

/-- (*revetment/drive.Drive).Flush$1 -/
def drive_Drive_Flush_1 (n0 : Int) (n1 : Int) (w : World) (R : Value → World → Prop) : Prop :=
  R (.int .i64 n1) w
theorem drive_Drive_Flush_1_eq (n0 : Int) (n1 : Int) (w : World) (R : Value → World → Prop) : drive_Drive_Flush_1 n0 n1 w R = fnP Try.prog Try.f48 .o [.int .i64 n0, .int .i64 n1] w R := by kernel_rfl
theorem drive_Drive_Flush_1_calls {n0 : Int} {n1 : Int} {w : World} {R : Value → World → Prop} (h : drive_Drive_Flush_1 n0 n1 w R) : Calls Try.prog 48 #[.int .i64 n0, .int .i64 n1] w fun e w1 => ∃ v, e = .returned v ∧ R v w1 := fnP_calls callable Try.func48 (drive_Drive_Flush_1_eq n0 n1 w R ▸ h)

/-- (*revetment/drive.Drive).Crash$1 -/
def drive_Drive_Crash_1 (n0 : Int) (n1 : Int) (k2 : Addr) (w : World) (R : Value → World → Prop) : Prop :=
  ∃ (p6 : Option Addr) (l6 c6 : Nat), w.cell? k2 = some (.slice p6 l6 c6) ∧
  (((l6 : Int) == 0) = true →
  R (.int .i64 0) w) ∧
  (((l6 : Int) == 0) = false →
  ∃ D : World → Prop, D w.drew ∧
  ∃ (p9 : Option Addr) (l9 c9 : Nat), (∀ w, D w → w.cell? k2 = some (.slice p9 l9 c9)) ∧
  ∃ (p11 : Option Addr) (l11 c11 : Nat), (∀ w, D w → w.cell? k2 = some (.slice p11 l11 c11)) ∧
  (l11 : Int) ≠ 0 ∧
  ∃ a14 : Addr, p9 = some a14 ∧ (0 : Int) ≤ Int.tmod n0 (l11 : Int) ∧ (Int.tmod n0 (l11 : Int)) < (l9 : Int) ∧
  ∃ n15 : Int, (∀ w, D w → w.cell? (Addr.add a14 ((Int.tmod n0 (l11 : Int)).toNat * 1)) = some (.int .u8 n15)) ∧
  (IntKind.i64.wrap (n1 + 1)) ≠ 0 ∧
  R (.int .i64 (Int.tmod (IntKind.i64.wrap n15) (IntKind.i64.wrap (n1 + 1)))) w.drew)
theorem drive_Drive_Crash_1_eq (n0 : Int) (n1 : Int) (k2 : Addr) (w : World) (R : Value → World → Prop) : drive_Drive_Crash_1 n0 n1 k2 w R = fnP Try.prog Try.f49 .o [.int .i64 n0, .int .i64 n1, .pointer (some k2)] w R := by kernel_rfl
theorem drive_Drive_Crash_1_calls {n0 : Int} {n1 : Int} {k2 : Addr} {w : World} {R : Value → World → Prop} (h : drive_Drive_Crash_1 n0 n1 k2 w R) : Calls Try.prog 49 #[.int .i64 n0, .int .i64 n1, .pointer (some k2)] w fun e w1 => ∃ v, e = .returned v ∧ R v w1 := fnP_calls callable Try.func49 (drive_Drive_Crash_1_eq n0 n1 k2 w R ▸ h)

/-- (*revetment/drive.Drive).may -/
def drive_Drive_may (p0 : Option Addr) (n1 : Int) (w : World) (R : Value → World → Prop) : Prop :=
  ∃ a7 : Addr, p0 = some a7 ∧
  ∃ b9 : Bool, w.cell? (a7.add 3) = some (.bool b9) ∧
  (b9 = true →
  R (.int .i64 40) w) ∧
  (b9 = false →
  Calls Try.prog 46 #[.pointer p0] w fun e w1 => ∃ b12 : Bool, e = .returned (.bool b12) ∧
  (b12 = true →
  R (.int .i64 42) w1) ∧
  (b12 = false →
  ((decide (n1 < 0)) = true →
  R (.int .i64 70) w1) ∧
  ((decide (n1 < 0)) = false →
  ∃ a19 : Addr, p0 = some a19 ∧
  ∃ (p21 : Option Addr) (l21 c21 : Nat), w1.cell? a19 = some (.slice p21 l21 c21) ∧
  ((decide (n1 ≥ (l21 : Int))) = true →
  R (.int .i64 70) w1) ∧
  ((decide (n1 ≥ (l21 : Int))) = false →
  R (.int .i64 0) w1))))
theorem drive_Drive_may_eq (p0 : Option Addr) (n1 : Int) (w : World) (R : Value → World → Prop) : drive_Drive_may p0 n1 w R = fnP Try.prog Try.f50 .o [.pointer p0, .int .i64 n1] w R := by kernel_rfl
theorem drive_Drive_may_calls {p0 : Option Addr} {n1 : Int} {w : World} {R : Value → World → Prop} (h : drive_Drive_may p0 n1 w R) : Calls Try.prog 50 #[.pointer p0, .int .i64 n1] w fun e w1 => ∃ v, e = .returned v ∧ R v w1 := fnP_calls callable Try.func50 (drive_Drive_may_eq p0 n1 w R ▸ h)

/-- (*revetment/revetmentref04.Drive).may -/
def revetmentref04_Drive_may (p0 : Option Addr) (n1 : Int) (w : World) (R : Value → World → Prop) : Prop :=
  ∃ a6 : Addr, p0 = some a6 ∧
  ∃ b8 : Bool, w.cell? (a6.add 3) = some (.bool b8) ∧
  (b8 = true →
  R (.int .i64 40) w) ∧
  (b8 = false →
  Calls Try.prog 53 #[.pointer p0] w fun e w1 => ∃ b10 : Bool, e = .returned (.bool b10) ∧
  (b10 = true →
  R (.int .i64 42) w1) ∧
  (b10 = false →
  ((decide (n1 < 0)) = true →
  R (.int .i64 70) w1) ∧
  ((decide (n1 < 0)) = false →
  ∃ a16 : Addr, p0 = some a16 ∧
  ∃ (p18 : Option Addr) (l18 c18 : Nat), w1.cell? a16 = some (.slice p18 l18 c18) ∧
  ((decide (n1 ≥ (l18 : Int))) = true →
  R (.int .i64 70) w1) ∧
  ((decide (n1 ≥ (l18 : Int))) = false →
  R (.int .i64 0) w1))))
theorem revetmentref04_Drive_may_eq (p0 : Option Addr) (n1 : Int) (w : World) (R : Value → World → Prop) : revetmentref04_Drive_may p0 n1 w R = fnP Try.prog Try.f51 .o [.pointer p0, .int .i64 n1] w R := by kernel_rfl
theorem revetmentref04_Drive_may_calls {p0 : Option Addr} {n1 : Int} {w : World} {R : Value → World → Prop} (h : revetmentref04_Drive_may p0 n1 w R) : Calls Try.prog 51 #[.pointer p0, .int .i64 n1] w fun e w1 => ∃ v, e = .returned v ∧ R v w1 := fnP_calls callable Try.func51 (revetmentref04_Drive_may_eq p0 n1 w R ▸ h)

/-- (*revetment/revetmentref04.Drive).use -/
def revetmentref04_Drive_use (p0 : Option Addr) (w : World) (R : Value → World → Prop) : Prop :=
  ∃ a3 : Addr, p0 = some a3 ∧
  ∃ b5 : Bool, w.cell? (a3.add 4) = some (.bool b5) ∧
  (b5 = true →
  ∃ a8 : Addr, p0 = some a8 ∧
  ∃ n10 : Int, w.cell? (a8.add 5) = some (.int .i64 n10) ∧
  ∃ a12 : Addr, p0 = some a12 ∧
  St (a12.add 5) (.int .i64 (IntKind.i64.wrap (n10 - 1))) w fun w1 =>
  R (.tuple #[]) w1) ∧
  (b5 = false →
  R (.tuple #[]) w)
theorem revetmentref04_Drive_use_eq (p0 : Option Addr) (w : World) (R : Value → World → Prop) : revetmentref04_Drive_use p0 w R = fnP Try.prog Try.f52 .o [.pointer p0] w R := by kernel_rfl
theorem revetmentref04_Drive_use_calls {p0 : Option Addr} {w : World} {R : Value → World → Prop} (h : revetmentref04_Drive_use p0 w R) : Calls Try.prog 52 #[.pointer p0] w fun e w1 => ∃ v, e = .returned v ∧ R v w1 := fnP_calls callable Try.func52 (revetmentref04_Drive_use_eq p0 w R ▸ h)

/-- (*revetment/revetmentref04.Drive).off -/
def revetmentref04_Drive_off (p0 : Option Addr) (w : World) (R : Value → World → Prop) : Prop :=
  ∃ a4 : Addr, p0 = some a4 ∧
  ∃ b6 : Bool, w.cell? (a4.add 4) = some (.bool b6) ∧
  (b6 = true →
  ∃ a9 : Addr, p0 = some a9 ∧
  ∃ n11 : Int, w.cell? (a9.add 5) = some (.int .i64 n11) ∧
  R (.bool (n11 == 0)) w) ∧
  (b6 = false →
  R (.bool false) w)
theorem revetmentref04_Drive_off_eq (p0 : Option Addr) (w : World) (R : Value → World → Prop) : revetmentref04_Drive_off p0 w R = fnP Try.prog Try.f53 .o [.pointer p0] w R := by kernel_rfl
theorem revetmentref04_Drive_off_calls {p0 : Option Addr} {w : World} {R : Value → World → Prop} (h : revetmentref04_Drive_off p0 w R) : Calls Try.prog 53 #[.pointer p0] w fun e w1 => ∃ v, e = .returned v ∧ R v w1 := fnP_calls callable Try.func53 (revetmentref04_Drive_off_eq p0 w R ▸ h)

/-- (*revetment/revetmentref04.Drive).keep -/
def revetmentref04_Drive_keep (p0 : Option Addr) (n1 : Int) (n2 : Int) (w : World) (R : Value → World → Prop) : Prop :=
  Join (fun vs w1 => vs = [] ∧
  ∃ a26 : Addr, p0 = some a26 ∧
  ∃ (p28 : Option Addr) (l28 c28 : Nat), w1.cell? (a26.add 1) = some (.slice p28 l28 c28) ∧
  ∃ a30 : Addr, p28 = some a30 ∧ (0 : Int) ≤ n1 ∧ n1 < (l28 : Int) ∧
  St (Addr.add a30 (n1.toNat * 1)) (.slice none 0 0) w1 fun w2 =>
  R (.tuple #[]) w2) fun J =>
  ((decide (n2 > 0)) = true →
  ∃ D : World → Prop, D w.drew ∧
  ∃ a9 : Addr, p0 = some a9 ∧
  ∃ (p11 : Option Addr) (l11 c11 : Nat), (∀ w, D w → w.cell? a9 = some (.slice p11 l11 c11)) ∧
  ∃ a14 : Addr, p0 = some a14 ∧
  ∃ (p16 : Option Addr) (l16 c16 : Nat), (∀ w, D w → w.cell? (a14.add 1) = some (.slice p16 l16 c16)) ∧
  ∃ a18 : Addr, p16 = some a18 ∧ (0 : Int) ≤ n1 ∧ n1 < (l16 : Int) ∧
  ∃ (p19 : Option Addr) (l19 c19 : Nat), (∀ w, D w → w.cell? (Addr.add a18 (n1.toNat * 1)) = some (.slice p19 l19 c19)) ∧
  ∃ a22 : Addr, p19 = some a22 ∧ (0 : Int) ≤ IntKind.i64.wrap (n2 - 1) ∧ (IntKind.i64.wrap (n2 - 1)) < (l19 : Int) ∧
  ∃ s23 : ByteArray, (∀ w, D w → w.cell? (Addr.add a22 ((IntKind.i64.wrap (n2 - 1)).toNat * 1)) = some (.string s23)) ∧
  ∃ a24 : Addr, p11 = some a24 ∧ (0 : Int) ≤ n1 ∧ n1 < (l11 : Int) ∧
  St (Addr.add a24 (n1.toNat * 1)) (.string s23) w.drew fun w3 =>
  J [] w3) ∧
  ((decide (n2 > 0)) = false →
  J [] w)
theorem revetmentref04_Drive_keep_eq (p0 : Option Addr) (n1 : Int) (n2 : Int) (w : World) (R : Value → World → Prop) : revetmentref04_Drive_keep p0 n1 n2 w R = fnP Try.prog Try.f54 (.j [] .o .o) [.pointer p0, .int .i64 n1, .int .i64 n2] w R := by kernel_rfl
theorem revetmentref04_Drive_keep_calls {p0 : Option Addr} {n1 : Int} {n2 : Int} {w : World} {R : Value → World → Prop} (h : revetmentref04_Drive_keep p0 n1 n2 w R) : Calls Try.prog 54 #[.pointer p0, .int .i64 n1, .int .i64 n2] w fun e w1 => ∃ v, e = .returned v ∧ R v w1 := fnP_calls callable Try.func54 (revetmentref04_Drive_keep_eq p0 n1 n2 w R ▸ h)

/-- (*revetment/revetmentref04.Drive).Read -/
def revetmentref04_Drive_Read (p0 : Option Addr) (n1 : Int) (w : World) (R : Value → World → Prop) : Prop :=
  Calls Try.prog 51 #[.pointer p0, .int .i64 n1] w fun e w1 => ∃ n10 : Int, e = .returned (.int .i64 n10) ∧
  ((n10 != 0) = true →
  R (.tuple #[.string (ByteArray.mk #[]), .int .i64 n10]) w1) ∧
  ((n10 != 0) = false →
  ∃ a15 : Addr, p0 = some a15 ∧
  ∃ (p17 : Option Addr) (l17 c17 : Nat), w1.cell? (a15.add 2) = some (.slice p17 l17 c17) ∧
  ∃ a19 : Addr, p17 = some a19 ∧ (0 : Int) ≤ n1 ∧ n1 < (l17 : Int) ∧
  ∃ b20 : Bool, w1.cell? (Addr.add a19 (n1.toNat * 1)) = some (.bool b20) ∧
  (b20 = true →
  R (.tuple #[.string (ByteArray.mk #[]), .int .i64 41]) w1) ∧
  (b20 = false →
  ∃ a22 : Addr, p0 = some a22 ∧
  ∃ (p24 : Option Addr) (l24 c24 : Nat), w1.cell? (a22.add 1) = some (.slice p24 l24 c24) ∧
  ∃ a26 : Addr, p24 = some a26 ∧ (0 : Int) ≤ n1 ∧ n1 < (l24 : Int) ∧
  ∃ (p27 : Option Addr) (l27 c27 : Nat), w1.cell? (Addr.add a26 (n1.toNat * 1)) = some (.slice p27 l27 c27) ∧
  ((decide ((l27 : Int) > 0)) = true →
  ∃ a32 : Addr, p0 = some a32 ∧
  ∃ (p34 : Option Addr) (l34 c34 : Nat), w1.cell? (a32.add 1) = some (.slice p34 l34 c34) ∧
  ∃ a36 : Addr, p34 = some a36 ∧ (0 : Int) ≤ n1 ∧ n1 < (l34 : Int) ∧
  ∃ (p37 : Option Addr) (l37 c37 : Nat), w1.cell? (Addr.add a36 (n1.toNat * 1)) = some (.slice p37 l37 c37) ∧
  ∃ a40 : Addr, p37 = some a40 ∧ (0 : Int) ≤ IntKind.i64.wrap ((l27 : Int) - 1) ∧ (IntKind.i64.wrap ((l27 : Int) - 1)) < (l37 : Int) ∧
  ∃ s41 : ByteArray, w1.cell? (Addr.add a40 ((IntKind.i64.wrap ((l27 : Int) - 1)).toNat * 1)) = some (.string s41) ∧
  R (.tuple #[.string s41, .int .i64 0]) w1) ∧
  ((decide ((l27 : Int) > 0)) = false →
  ∃ a43 : Addr, p0 = some a43 ∧
  ∃ (p45 : Option Addr) (l45 c45 : Nat), w1.cell? a43 = some (.slice p45 l45 c45) ∧
  ∃ a47 : Addr, p45 = some a47 ∧ (0 : Int) ≤ n1 ∧ n1 < (l45 : Int) ∧
  ∃ s48 : ByteArray, w1.cell? (Addr.add a47 (n1.toNat * 1)) = some (.string s48) ∧
  R (.tuple #[.string s48, .int .i64 0]) w1)))
theorem revetmentref04_Drive_Read_eq (p0 : Option Addr) (n1 : Int) (w : World) (R : Value → World → Prop) : revetmentref04_Drive_Read p0 n1 w R = fnP Try.prog Try.f55 .o [.pointer p0, .int .i64 n1] w R := by kernel_rfl
theorem revetmentref04_Drive_Read_calls {p0 : Option Addr} {n1 : Int} {w : World} {R : Value → World → Prop} (h : revetmentref04_Drive_Read p0 n1 w R) : Calls Try.prog 55 #[.pointer p0, .int .i64 n1] w fun e w1 => ∃ v, e = .returned v ∧ R v w1 := fnP_calls callable Try.func55 (revetmentref04_Drive_Read_eq p0 n1 w R ▸ h)

/-- (*revetment/revetmentref04.Drive).Change -/
def revetmentref04_Drive_Change (p0 : Option Addr) (n1 : Int) (s2 : ByteArray) (w : World) (R : Value → World → Prop) : Prop :=
  Calls Try.prog 51 #[.pointer p0, .int .i64 n1] w fun e w1 => ∃ n10 : Int, e = .returned (.int .i64 n10) ∧
  ((n10 != 0) = true →
  R (.int .i64 n10) w1) ∧
  ((n10 != 0) = false →
  (((s2.size : Int) != 64) = true →
  R (.int .i64 1) w1) ∧
  (((s2.size : Int) != 64) = false →
  ∃ a18 : Addr, p0 = some a18 ∧
  ∃ (p20 : Option Addr) (l20 c20 : Nat), w1.cell? a18 = some (.slice p20 l20 c20) ∧
  ∃ a23 : Addr, p20 = some a23 ∧ (0 : Int) ≤ n1 ∧ n1 < (l20 : Int) ∧
  St (Addr.add a23 (n1.toNat * 1)) (.string s2) w1 fun w2 =>
  ∃ a25 : Addr, p0 = some a25 ∧
  ∃ (p27 : Option Addr) (l27 c27 : Nat), w2.cell? (a25.add 1) = some (.slice p27 l27 c27) ∧
  ∃ a29 : Addr, p27 = some a29 ∧ (0 : Int) ≤ n1 ∧ n1 < (l27 : Int) ∧
  St (Addr.add a29 (n1.toNat * 1)) (.slice none 0 0) w2 fun w3 =>
  R (.int .i64 0) w3))
theorem revetmentref04_Drive_Change_eq (p0 : Option Addr) (n1 : Int) (s2 : ByteArray) (w : World) (R : Value → World → Prop) : revetmentref04_Drive_Change p0 n1 s2 w R = fnP Try.prog Try.f56 .o [.pointer p0, .int .i64 n1, .string s2] w R := by kernel_rfl
theorem revetmentref04_Drive_Change_calls {p0 : Option Addr} {n1 : Int} {s2 : ByteArray} {w : World} {R : Value → World → Prop} (h : revetmentref04_Drive_Change p0 n1 s2 w R) : Calls Try.prog 56 #[.pointer p0, .int .i64 n1, .string s2] w fun e w1 => ∃ v, e = .returned v ∧ R v w1 := fnP_calls callable Try.func56 (revetmentref04_Drive_Change_eq p0 n1 s2 w R ▸ h)

/-- (*revetment/revetmentref04.Drive).Off -/
def revetmentref04_Drive_Off (p0 : Option Addr) (n1 : Int) (w : World) (R : Value → World → Prop) : Prop :=
  ∃ a5 : Addr, p0 = some a5 ∧
  St (a5.add 4) (.bool true) w fun w1 =>
  ∃ n9 : Int, ∃ w2, (builtin .max #[3, 3] 3 #[false, true] #[.int .i64 n1, .int .i64 0]).run Try.prog w1 = .ok (.value (.int .i64 n9)) w2 ∧
  ∃ a10 : Addr, p0 = some a10 ∧
  St (a10.add 5) (.int .i64 n9) w2 fun w3 =>
  R (.tuple #[]) w3
theorem revetmentref04_Drive_Off_eq (p0 : Option Addr) (n1 : Int) (w : World) (R : Value → World → Prop) : revetmentref04_Drive_Off p0 n1 w R = fnP Try.prog Try.f57 .o [.pointer p0, .int .i64 n1] w R := by kernel_rfl
theorem revetmentref04_Drive_Off_calls {p0 : Option Addr} {n1 : Int} {w : World} {R : Value → World → Prop} (h : revetmentref04_Drive_Off p0 n1 w R) : Calls Try.prog 57 #[.pointer p0, .int .i64 n1] w fun e w1 => ∃ v, e = .returned v ∧ R v w1 := fnP_calls callable Try.func57 (revetmentref04_Drive_Off_eq p0 n1 w R ▸ h)

/-- (*revetment/revetmentref04.Drive).Safe -/
def revetmentref04_Drive_Safe (p0 : Option Addr) (n1 : Int) (w : World) (R : Value → World → Prop) : Prop :=
  ((decide (n1 < 0)) = true →
  R (.tuple #[.string (ByteArray.mk #[]), .int .i64 70]) w) ∧
  ((decide (n1 < 0)) = false →
  ∃ a11 : Addr, p0 = some a11 ∧
  ∃ (p13 : Option Addr) (l13 c13 : Nat), w.cell? a11 = some (.slice p13 l13 c13) ∧
  ((decide (n1 ≥ (l13 : Int))) = true →
  R (.tuple #[.string (ByteArray.mk #[]), .int .i64 70]) w) ∧
  ((decide (n1 ≥ (l13 : Int))) = false →
  ∃ a18 : Addr, p0 = some a18 ∧
  ∃ (p20 : Option Addr) (l20 c20 : Nat), w.cell? a18 = some (.slice p20 l20 c20) ∧
  ∃ a22 : Addr, p20 = some a22 ∧ (0 : Int) ≤ n1 ∧ n1 < (l20 : Int) ∧
  ∃ s23 : ByteArray, w.cell? (Addr.add a22 (n1.toNat * 1)) = some (.string s23) ∧
  R (.tuple #[.string s23, .int .i64 0]) w))
theorem revetmentref04_Drive_Safe_eq (p0 : Option Addr) (n1 : Int) (w : World) (R : Value → World → Prop) : revetmentref04_Drive_Safe p0 n1 w R = fnP Try.prog Try.f58 .o [.pointer p0, .int .i64 n1] w R := by kernel_rfl
theorem revetmentref04_Drive_Safe_calls {p0 : Option Addr} {n1 : Int} {w : World} {R : Value → World → Prop} (h : revetmentref04_Drive_Safe p0 n1 w R) : Calls Try.prog 58 #[.pointer p0, .int .i64 n1] w fun e w1 => ∃ v, e = .returned v ∧ R v w1 := fnP_calls callable Try.func58 (revetmentref04_Drive_Safe_eq p0 n1 w R ▸ h)

/-- (*revetment/drive.Drive).Change$1 -/
def drive_Drive_Change_1 (z0 : Array Value) (k1 : Addr) (k2 : Addr) (w : World) (R : Value → World → Prop) : Prop :=
  Alloc z0 88 w fun k3 w1 =>
  ∃ D : World → Prop, D w1.drew ∧
  ∃ p4 : Option Addr, (∀ w, D w → w.cell? k1 = some (.pointer p4)) ∧
  ∃ a5 : Addr, p4 = some a5 ∧
  ∃ (p7 : Option Addr) (l7 c7 : Nat), (∀ w, D w → w.cell? a5 = some (.slice p7 l7 c7)) ∧
  ∃ n8 : Int, (∀ w, D w → w.cell? k2 = some (.int .i64 n8)) ∧
  ∃ z9 : Array Value, z9.size = 64 ∧ (∀ w, D w → bigAt w ⟨k3, 0, none⟩ z9) ∧
  ∃ a10 : Addr, p7 = some a10 ∧ (0 : Int) ≤ n8 ∧ n8 < (l7 : Int) ∧
  ∃ w2, (Instr.storeAt 88 (.pointer (some (Addr.add a10 (n8.toNat * 64)))) (.agg z9)).run Try.prog w1.drew = .ok () w2 ∧
  ∃ D_1 : World → Prop, D_1 w2.drew ∧
  ∃ p11 : Option Addr, (∀ w, D_1 w → w.cell? k1 = some (.pointer p11)) ∧
  ∃ a12 : Addr, p11 = some a12 ∧
  ∃ m14 : Option Nat, (∀ w, D_1 w → w.cell? (a12.add 1) = some (.map m14)) ∧
  ∃ n15 : Int, (∀ w, D_1 w → w.cell? k2 = some (.int .i64 n15)) ∧
  ∃ w3, (builtin .delete #[82, 3] 0 #[false, false] #[.map m14, .int .i64 n15]).run Try.prog w2.drew = .ok (.value (.tuple #[])) w3 ∧
  R (.tuple #[]) w3
theorem drive_Drive_Change_1_eq (z0 : Array Value) (k1 : Addr) (k2 : Addr) (w : World) (R : Value → World → Prop) : drive_Drive_Change_1 z0 k1 k2 w R = fnP Try.prog Try.f59 .o [.agg z0, .pointer (some k1), .pointer (some k2)] w R := by kernel_rfl
theorem drive_Drive_Change_1_calls {z0 : Array Value} {k1 : Addr} {k2 : Addr} {w : World} {R : Value → World → Prop} (h : drive_Drive_Change_1 z0 k1 k2 w R) : Calls Try.prog 59 #[.agg z0, .pointer (some k1), .pointer (some k2)] w fun e w1 => ∃ v, e = .returned v ∧ R v w1 := fnP_calls callable Try.func59 (drive_Drive_Change_1_eq z0 k1 k2 w R ▸ h)

end Go.Proofs.Ytdppllkjibfjcaa
