import Derived.Test.YtedbbdeeofdepaaGreatDoorM2
import Derived.Test.YtedbbdeeofdepaaGreatDoorM17
/-! The formulas of Go functions, printed by a program of this session (shprint.py), each tied to the loaded function by the kernel. -/
namespace Go.Proofs.YtedbbdeeofdepaaGreatDoor
open Go.Sh
set_option linter.unusedVariables false
set_option maxRecDepth 100000
/-- revetment/revetmentlaw19.MendRebuilds -/
def revetmentlaw19_MendRebuilds (n0 : Int) (n1 : Int) (n2 : Int) (p3 : Option Addr) (l3 c3 : Nat) (n4 : Int) (n5 : Int) (s6 : ByteArray) (w : World) (R : Value → World → Prop) : Prop :=
  ((decide ((l3 : Int) > 10)) = true →
  Calls Tryz.prog 8 #[] w fun e w1 => ∃ b43 : Bool, e = .returned (.bool b43) ∧
  R (.bool b43) w1) ∧
  ((decide ((l3 : Int) > 10)) = false →
  ((decide ((s6.size : Int) > 100)) = true →
  Calls Tryz.prog 8 #[] w fun e_1 w2 => ∃ b43_1 : Bool, e_1 = .returned (.bool b43_1) ∧
  R (.bool b43_1) w2) ∧
  ((decide ((s6.size : Int) > 100)) = false →
  Calls Tryz.prog 8 #[] w fun e_2 w3 => ∃ b40 : Bool, e_2 = .returned (.bool b40) ∧
  ((!b40) = true →
  Calls Tryz.prog 8 #[] w3 fun e_3 w4 => ∃ b43_2 : Bool, e_3 = .returned (.bool b43_2) ∧
  R (.bool b43_2) w4) ∧
  ((!b40) = false →
  LoopP (fun I => I [.int .i64 0] w3) fun K vs w5 => ∃ n15 : Int, vs = [.int .i64 n15] ∧
  ((decide (n15 < (l3 : Int))) = true →
  ∃ a52 : Addr, p3 = some a52 ∧ (0 : Int) ≤ n15 ∧ n15 < (l3 : Int) ∧
  ∃ s53 : ByteArray, w5.cell? (Addr.add a52 (n15.toNat * 1)) = some (.string s53) ∧
  ((decide ((s53.size : Int) > 100)) = true →
  Calls Tryz.prog 8 #[] w5 fun e_4 w6 => ∃ b56 : Bool, e_4 = .returned (.bool b56) ∧
  R (.bool b56) w6) ∧
  ((decide ((s53.size : Int) > 100)) = false →
  K [.int .i64 (IntKind.i64.wrap (n15 + 1))] w5)) ∧
  ((decide (n15 < (l3 : Int))) = false →
  Calls Tryz.prog 9 #[.int .u8 n0, .int .u8 n1, .int .u8 n2] w5 fun e_5 w7 => ∃ n60_0 : Int, ∃ n60_1 : Int, ∃ n60_2 : Int, e_5 = .returned (.agg #[.int .i64 n60_0, .int .i64 n60_1, .int .i64 n60_2]) ∧
  Alloc #[.int .i64 0, .int .i64 0, .int .i64 0] 25 w7 fun k16 w8 =>
  St ⟨k16, 0, none⟩ (.int .i64 n60_0) w8 fun w9 =>
  St ⟨k16, 1, none⟩ (.int .i64 n60_1) w9 fun w10 =>
  St ⟨k16, 2, none⟩ (.int .i64 n60_2) w10 fun w11 =>
  ∃ n62_0 : Int, ∃ n62_1 : Int, ∃ n62_2 : Int, (w11.cell? ⟨k16, 0, none⟩ = some (.int .i64 n62_0) ∧ w11.cell? ⟨k16, 1, none⟩ = some (.int .i64 n62_1) ∧ w11.cell? ⟨k16, 2, none⟩ = some (.int .i64 n62_2)) ∧
  Calls Tryz.prog 10 #[.agg #[.int .i64 n62_0, .int .i64 n62_1, .int .i64 n62_2]] w11 fun e_6 w12 => ∃ n63_0_0 : Int, ∃ n63_0_1 : Int, ∃ n63_0_2 : Int, ∃ (p63_0_3 : Option Addr) (l63_0_3 c63_0_3 : Nat), ∃ (p63_0_4 : Option Addr) (l63_0_4 c63_0_4 : Nat), ∃ n63_1_0 : Int, ∃ n63_1_1 : Int, ∃ n63_1_2 : Int, ∃ (p63_1_3 : Option Addr) (l63_1_3 c63_1_3 : Nat), ∃ (p63_1_4 : Option Addr) (l63_1_4 c63_1_4 : Nat), ∃ b63_2 : Bool, e_6 = .returned (.tuple #[.agg #[.int .i64 n63_0_0, .int .i64 n63_0_1, .int .i64 n63_0_2, .slice p63_0_3 l63_0_3 c63_0_3, .slice p63_0_4 l63_0_4 c63_0_4], .agg #[.int .i64 n63_1_0, .int .i64 n63_1_1, .int .i64 n63_1_2, .slice p63_1_3 l63_1_3 c63_1_3, .slice p63_1_4 l63_1_4 c63_1_4], .bool b63_2]) ∧
  Alloc #[.int .i64 0, .int .i64 0, .int .i64 0, .slice none 0 0, .slice none 0 0] 30 w12 fun k17 w13 =>
  Alloc #[.int .i64 0, .int .i64 0, .int .i64 0, .slice none 0 0, .slice none 0 0] 33 w13 fun k18 w14 =>
  St ⟨k17, 0, none⟩ (.int .i64 n63_0_0) w14 fun w15 =>
  St ⟨k17, 1, none⟩ (.int .i64 n63_0_1) w15 fun w16 =>
  St ⟨k17, 2, none⟩ (.int .i64 n63_0_2) w16 fun w17 =>
  St ⟨k17, 3, none⟩ (.slice p63_0_3 l63_0_3 c63_0_3) w17 fun w18 =>
  St ⟨k17, 4, none⟩ (.slice p63_0_4 l63_0_4 c63_0_4) w18 fun w19 =>
  St ⟨k18, 0, none⟩ (.int .i64 n63_1_0) w19 fun w20 =>
  St ⟨k18, 1, none⟩ (.int .i64 n63_1_1) w20 fun w21 =>
  St ⟨k18, 2, none⟩ (.int .i64 n63_1_2) w21 fun w22 =>
  St ⟨k18, 3, none⟩ (.slice p63_1_3 l63_1_3 c63_1_3) w22 fun w23 =>
  St ⟨k18, 4, none⟩ (.slice p63_1_4 l63_1_4 c63_1_4) w23 fun w24 =>
  ((!b63_2) = true →
  R (.bool false) w24) ∧
  ((!b63_2) = false →
  ∃ n72 : Int, w24.cell? ⟨k16, 2, none⟩ = some (.int .i64 n72) ∧
  n72 ≠ 0 ∧
  LoopP (fun I_1 => I_1 [.int .i64 0] w24) fun K_1 vs_1 w25 => ∃ n21 : Int, vs_1 = [.int .i64 n21] ∧
  ∃ n76 : Int, w25.cell? ⟨k16, 1, none⟩ = some (.int .i64 n76) ∧
  ((decide (n21 < n76)) = true →
  ∃ n81_0 : Int, ∃ n81_1 : Int, ∃ n81_2 : Int, ∃ (p81_3 : Option Addr) (l81_3 c81_3 : Nat), ∃ (p81_4 : Option Addr) (l81_4 c81_4 : Nat), (w25.cell? ⟨k17, 0, none⟩ = some (.int .i64 n81_0) ∧ w25.cell? ⟨k17, 1, none⟩ = some (.int .i64 n81_1) ∧ w25.cell? ⟨k17, 2, none⟩ = some (.int .i64 n81_2) ∧ w25.cell? ⟨k17, 3, none⟩ = some (.slice p81_3 l81_3 c81_3) ∧ w25.cell? ⟨k17, 4, none⟩ = some (.slice p81_4 l81_4 c81_4)) ∧
  Calls Tryz.prog 11 #[.agg #[.int .i64 n81_0, .int .i64 n81_1, .int .i64 n81_2, .slice p81_3 l81_3 c81_3, .slice p81_4 l81_4 c81_4], .int .i64 (Int.tmod (IntKind.i64.wrap n2) n72), .int .i64 n21, .slice p3 l3 c3] w25 fun e_7 w26 => ∃ (p85_0 : Option Addr) (l85_0 c85_0 : Nat), ∃ b85_1 : Bool, e_7 = .returned (.tuple #[.slice p85_0 l85_0 c85_0, .bool b85_1]) ∧
  ((!b85_1) = true →
  R (.bool false) w26) ∧
  ((!b85_1) = false →
  K_1 [.int .i64 (IntKind.i64.wrap (n21 + 1))] w26)) ∧
  ((decide (n21 < n76)) = false →
  ∃ n93 : Int, w25.cell? ⟨k16, 0, none⟩ = some (.int .i64 n93) ∧
  n93 ≠ 0 ∧
  ∃ D : World → Prop, D w25.drew ∧
  ∃ (p96 : Option Addr) (l96 c96 : Nat), (∀ w, D w → w.cell? ⟨k17, 3, none⟩ = some (.slice p96 l96 c96)) ∧
  ∃ n100 : Int, (∀ w, D w → w.cell? ⟨k16, 0, none⟩ = some (.int .i64 n100)) ∧
  n100 ≠ 0 ∧
  ∃ a102 : Addr, p96 = some a102 ∧ (0 : Int) ≤ Int.tmod (IntKind.i64.wrap n5) n100 ∧ (Int.tmod (IntKind.i64.wrap n5) n100) < (l96 : Int) ∧
  St (Addr.add a102 ((Int.tmod (IntKind.i64.wrap n5) n100).toNat * 1)) (.pointer none) w25.drew fun w27 =>
  ∃ D_1 : World → Prop, D_1 w27.drew ∧
  ∃ (p104 : Option Addr) (l104 c104 : Nat), (∀ w, D_1 w → w.cell? ⟨k17, 3, none⟩ = some (.slice p104 l104 c104)) ∧
  ∃ n107 : Int, (∀ w, D_1 w → w.cell? ⟨k16, 2, none⟩ = some (.int .i64 n107)) ∧
  ∃ n109 : Int, (∀ w, D_1 w → w.cell? ⟨k16, 1, none⟩ = some (.int .i64 n109)) ∧
  Calls Tryz.prog 20 #[.int .i64 (IntKind.i64.wrap (4 + (IntKind.i64.wrap (n107 * n109))))] w27.drew fun e_8 w28 => ∃ p112 : Option Addr, e_8 = .returned (.pointer p112) ∧
  D_1 w28 ∧
  ∃ a113 : Addr, p104 = some a113 ∧ (0 : Int) ≤ Int.tmod (IntKind.i64.wrap n4) n93 ∧ (Int.tmod (IntKind.i64.wrap n4) n93) < (l104 : Int) ∧
  St (Addr.add a113 ((Int.tmod (IntKind.i64.wrap n4) n93).toNat * 1)) (.pointer p112) w28 fun w29 =>
  ∃ (p115 : Option Addr) (l115 c115 : Nat), w29.cell? ⟨k17, 4, none⟩ = some (.slice p115 l115 c115) ∧
  ∃ a118 : Addr, p115 = some a118 ∧ (0 : Int) ≤ Int.tmod (IntKind.i64.wrap n4) n93 ∧ (Int.tmod (IntKind.i64.wrap n4) n93) < (l115 : Int) ∧
  St (Addr.add a118 ((Int.tmod (IntKind.i64.wrap n4) n93).toNat * 1)) (.int .i64 (Int.tmod (IntKind.i64.wrap n2) n72)) w29 fun w30 =>
  ∃ D_2 : World → Prop, D_2 w30.drew ∧
  ∃ (p120 : Option Addr) (l120 c120 : Nat), (∀ w, D_2 w → w.cell? ⟨k17, 3, none⟩ = some (.slice p120 l120 c120)) ∧
  ∃ a122 : Addr, p120 = some a122 ∧ (0 : Int) ≤ Int.tmod (IntKind.i64.wrap n4) n93 ∧ (Int.tmod (IntKind.i64.wrap n4) n93) < (l120 : Int) ∧
  ∃ p123 : Option Addr, (∀ w, D_2 w → w.cell? (Addr.add a122 ((Int.tmod (IntKind.i64.wrap n4) n93).toNat * 1)) = some (.pointer p123)) ∧
  ((Option.isNone p123) = true →
  R (.bool false) w30.drew) ∧
  ((Option.isNone p123) = false →
  ∃ (p127 : Option Addr) (l127 c127 : Nat), (∀ w, D_2 w → w.cell? ⟨k17, 3, none⟩ = some (.slice p127 l127 c127)) ∧
  ∃ a129 : Addr, p127 = some a129 ∧ (0 : Int) ≤ Int.tmod (IntKind.i64.wrap n4) n93 ∧ (Int.tmod (IntKind.i64.wrap n4) n93) < (l127 : Int) ∧
  ∃ p130 : Option Addr, (∀ w, D_2 w → w.cell? (Addr.add a129 ((Int.tmod (IntKind.i64.wrap n4) n93).toNat * 1)) = some (.pointer p130)) ∧
  ∃ n133 : Int, (∀ w, D_2 w → w.cell? ⟨k16, 1, none⟩ = some (.int .i64 n133)) ∧
  Calls Tryz.prog 14 #[.string s6] w30.drew fun e_9 w31 => ∃ s137 : ByteArray, e_9 = .returned (.string s137) ∧
  D_2 w31 ∧
  Calls Tryz.prog 21 #[.pointer p130, .int .i64 (IntKind.i64.wrap (4 + (IntKind.i64.wrap ((Int.tmod (IntKind.i64.wrap n2) n72) * n133)))), .string s137] w31 fun e_10 w32 => ∃ n138 : Int, e_10 = .returned (.int .i64 n138) ∧
  D_2 w32 ∧
  ((n138 != 0) = true →
  R (.bool false) w32) ∧
  ((n138 != 0) = false →
  ∃ n142_0 : Int, ∃ n142_1 : Int, ∃ n142_2 : Int, ∃ (p142_3 : Option Addr) (l142_3 c142_3 : Nat), ∃ (p142_4 : Option Addr) (l142_4 c142_4 : Nat), (∀ w, D_2 w → w.cell? ⟨k17, 0, none⟩ = some (.int .i64 n142_0) ∧ w.cell? ⟨k17, 1, none⟩ = some (.int .i64 n142_1) ∧ w.cell? ⟨k17, 2, none⟩ = some (.int .i64 n142_2) ∧ w.cell? ⟨k17, 3, none⟩ = some (.slice p142_3 l142_3 c142_3) ∧ w.cell? ⟨k17, 4, none⟩ = some (.slice p142_4 l142_4 c142_4)) ∧
  Calls Tryz.prog 22 #[.agg #[.int .i64 n142_0, .int .i64 n142_1, .int .i64 n142_2, .slice p142_3 l142_3 c142_3, .slice p142_4 l142_4 c142_4], .int .i64 (Int.tmod (IntKind.i64.wrap n2) n72), .int .i64 (Int.tmod (IntKind.i64.wrap n4) n93)] w32 fun e_11 w33 => ∃ n145 : Int, e_11 = .returned (.int .i64 n145) ∧
  D_2 w33 ∧
  ((n145 != 0) = true →
  R (.bool false) w33) ∧
  ((n145 != 0) = false →
  ∃ (p149 : Option Addr) (l149 c149 : Nat), w33.cell? ⟨k17, 4, none⟩ = some (.slice p149 l149 c149) ∧
  ∃ a153 : Addr, p149 = some a153 ∧ (0 : Int) ≤ Int.tmod (IntKind.i64.wrap n4) n93 ∧ (Int.tmod (IntKind.i64.wrap n4) n93) < (l149 : Int) ∧
  St (Addr.add a153 ((Int.tmod (IntKind.i64.wrap n4) n93).toNat * 1)) (.int .i64 (IntKind.i64.wrap ((Int.tmod (IntKind.i64.wrap n2) n72) + 1))) w33 fun w34 =>
  LoopP (fun I_2 => I_2 [.int .i64 0] w34) fun K_2 vs_2 w35 => ∃ n25 : Int, vs_2 = [.int .i64 n25] ∧
  ∃ n156 : Int, w35.cell? ⟨k16, 1, none⟩ = some (.int .i64 n156) ∧
  ((decide (n25 < n156)) = true →
  ∃ n161_0 : Int, ∃ n161_1 : Int, ∃ n161_2 : Int, ∃ (p161_3 : Option Addr) (l161_3 c161_3 : Nat), ∃ (p161_4 : Option Addr) (l161_4 c161_4 : Nat), (w35.cell? ⟨k17, 0, none⟩ = some (.int .i64 n161_0) ∧ w35.cell? ⟨k17, 1, none⟩ = some (.int .i64 n161_1) ∧ w35.cell? ⟨k17, 2, none⟩ = some (.int .i64 n161_2) ∧ w35.cell? ⟨k17, 3, none⟩ = some (.slice p161_3 l161_3 c161_3) ∧ w35.cell? ⟨k17, 4, none⟩ = some (.slice p161_4 l161_4 c161_4)) ∧
  Calls Tryz.prog 23 #[.agg #[.int .i64 n161_0, .int .i64 n161_1, .int .i64 n161_2, .slice p161_3 l161_3 c161_3, .slice p161_4 l161_4 c161_4], .int .i64 (Int.tmod (IntKind.i64.wrap n2) n72), .int .i64 n25] w35 fun e_12 w36 => ∃ (p164_0 : Option Addr) (l164_0 c164_0 : Nat), ∃ (p164_1 : Option Addr) (l164_1 c164_1 : Nat), ∃ n164_2 : Int, e_12 = .returned (.tuple #[.slice p164_0 l164_0 c164_0, .slice p164_1 l164_1 c164_1, .int .i64 n164_2]) ∧
  ((n164_2 != 0) = true →
  R (.bool false) w36) ∧
  ((n164_2 != 0) = false →
  ((decide ((l164_1 : Int) > 1)) = true →
  R (.bool false) w36) ∧
  ((decide ((l164_1 : Int) > 1)) = false →
  Calls Tryz.prog 19 #[.slice p164_0 l164_0 c164_0] w36 fun e_13 w37 => ∃ b177 : Bool, e_13 = .returned (.bool b177) ∧
  ((!b177) = true →
  R (.bool false) w37) ∧
  ((!b177) = false →
  LoopP (fun I_3 => I_3 [.int .i64 0] w37) fun K_3 vs_3 w38 => ∃ n29 : Int, vs_3 = [.int .i64 n29] ∧
  ∃ n182 : Int, w38.cell? ⟨k16, 0, none⟩ = some (.int .i64 n182) ∧
  ((decide (n29 < (IntKind.i64.wrap (n182 - 2)))) = true →
  Calls Tryz.prog 14 #[.string (ByteArray.mk #[])] w38 fun e_14 w39 => ∃ s187 : ByteArray, e_14 = .returned (.string s187) ∧
  Join (fun vs_4 w40 => ∃ s30 : ByteArray, vs_4 = [.string s30] ∧
  ∃ a199 : Addr, p164_0 = some a199 ∧ (0 : Int) ≤ n29 ∧ n29 < (l164_0 : Int) ∧
  ∃ s200 : ByteArray, w40.cell? (Addr.add a199 (n29.toNat * 1)) = some (.string s200) ∧
  ((!(s200.toList == s30.toList)) = true →
  R (.bool false) w40) ∧
  ((!(s200.toList == s30.toList)) = false →
  K_3 [.int .i64 (IntKind.i64.wrap (n29 + 1))] w40)) fun J =>
  ((decide (n29 < (l3 : Int))) = true →
  ∃ a194 : Addr, p3 = some a194 ∧ (0 : Int) ≤ n29 ∧ n29 < (l3 : Int) ∧
  ∃ s195 : ByteArray, w39.cell? (Addr.add a194 (n29.toNat * 1)) = some (.string s195) ∧
  Calls Tryz.prog 14 #[.string s195] w39 fun e_15 w41 => ∃ s196 : ByteArray, e_15 = .returned (.string s196) ∧
  J [.string s196] w41) ∧
  ((decide (n29 < (l3 : Int))) = false →
  J [.string s187] w39)) ∧
  ((decide (n29 < (IntKind.i64.wrap (n182 - 2)))) = false →
  K_2 [.int .i64 (IntKind.i64.wrap (n25 + 1))] w38))))) ∧
  ((decide (n25 < n156)) = false →
  R (.bool true) w35))))))))))
theorem revetmentlaw19_MendRebuilds_eq (n0 : Int) (n1 : Int) (n2 : Int) (p3 : Option Addr) (l3 c3 : Nat) (n4 : Int) (n5 : Int) (s6 : ByteArray) (w : World) (R : Value → World → Prop) : revetmentlaw19_MendRebuilds n0 n1 n2 p3 l3 c3 n4 n5 s6 w R = fnP Tryz.prog Tryz.f5 (.s .o (.s .o (.s (.s .o (.b (.l [(15, .one (.int .i64))] .o))) (.s .o (.s .o (.s .o (.s .o (.s (.s .o (.b (.l [(21, .one (.int .i64))] .o))) (.s .o (.s .o (.s .o (.s .o (.s .o (.s .o (.s (.s .o (.b (.l [(25, .one (.int .i64))] (.s .o (.s (.b (.s .o (.s .o (.s .o (.b (.l [(29, .one (.int .i64))] (.s .o (.s (.b (.s .o (.j [(30, .one .str)] .o .o))) .o)))))))) .o))))) .o))))))))))))))) [.int .u8 n0, .int .u8 n1, .int .u8 n2, .slice p3 l3 c3, .int .u8 n4, .int .u8 n5, .string s6] w R := by kernel_rfl
theorem revetmentlaw19_MendRebuilds_calls {n0 : Int} {n1 : Int} {n2 : Int} {p3 : Option Addr} {l3 c3 : Nat} {n4 : Int} {n5 : Int} {s6 : ByteArray} {w : World} {R : Value → World → Prop} (h : revetmentlaw19_MendRebuilds n0 n1 n2 p3 l3 c3 n4 n5 s6 w R) : Calls Tryz.prog 5 #[.int .u8 n0, .int .u8 n1, .int .u8 n2, .slice p3 l3 c3, .int .u8 n4, .int .u8 n5, .string s6] w fun e w1 => ∃ v, e = .returned v ∧ R v w1 := fnP_calls callable Tryz.func5 (revetmentlaw19_MendRebuilds_eq n0 n1 n2 p3 l3 c3 n4 n5 s6 w R ▸ h)

end Go.Proofs.YtedbbdeeofdepaaGreatDoor
