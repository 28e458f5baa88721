import Derived.Test.YtmipjkalfodcpaaGreatDoorM2
/-! The formulas of Go functions, printed by a program of this session (shprint.py), each tied to the loaded function by the kernel. -/
namespace Go.Proofs.YtmipjkalfodcpaaGreatDoor
open Go.Sh
set_option linter.unusedVariables false
set_option maxRecDepth 100000
/-- revetment/revetmentlaw11.PagesActs -/
def revetmentlaw11_PagesActs (p0 : Option Addr) (l0 c0 : Nat) (n1 : Int) (w : World) (R : Value → World → Prop) : Prop :=
  ((decide ((l0 : Int) > 60)) = true →
  Calls Tryz.prog 4 #[] w fun e w1 => ∃ b32 : Bool, e = .returned (.bool b32) ∧
  R (.bool b32) w1) ∧
  ((decide ((l0 : Int) > 60)) = false →
  Calls Tryz.prog 4 #[] w fun e_1 w2 => ∃ b29 : Bool, e_1 = .returned (.bool b29) ∧
  ((!b29) = true →
  Calls Tryz.prog 4 #[] w2 fun e_2 w3 => ∃ b32_1 : Bool, e_2 = .returned (.bool b32_1) ∧
  R (.bool b32_1) w3) ∧
  ((!b29) = false →
  Alloc #[] 27 w2 fun k33 w4 =>
  Alloc #[] 29 w4 fun k34 w5 =>
  LoopP (fun I => I [.slice (some ⟨k33, 0, none⟩) 0 0, .slice (some ⟨k34, 0, none⟩) 0 0, .int .i64 0] w5) fun K vs w6 => ∃ (p5 : Option Addr) (l5 c5 : Nat), ∃ (p6 : Option Addr) (l6 c6 : Nat), ∃ n7 : Int, vs = [.slice p5 l5 c5, .slice p6 l6 c6, .int .i64 n7] ∧
  ((decide (n7 < 4)) = true →
  Calls Tryz.prog 5 #[.int .i64 3] w6 fun e_3 w7 => ∃ p40 : Option Addr, e_3 = .returned (.pointer p40) ∧
  Alloc #[.pointer p40] 27 w7 fun k41 w8 =>
  ∃ (p42 : Option Addr) (l42 c42 : Nat), ∃ w9, (builtin .append #[25, 25] 25 #[false, false] #[.slice p5 l5 c5, .slice (some ⟨k41, 0, none⟩) 1 1]).run Tryz.prog w8 = .ok (.value (.slice p42 l42 c42)) w9 ∧
  Calls Tryz.prog 6 #[.int .i64 3] w9 fun e_4 w10 => ∃ p44 : Option Addr, e_4 = .returned (.pointer p44) ∧
  Alloc #[.pointer p44] 29 w10 fun k45 w11 =>
  ∃ (p46 : Option Addr) (l46 c46 : Nat), ∃ w12, (builtin .append #[26, 26] 26 #[false, false] #[.slice p6 l6 c6, .slice (some ⟨k45, 0, none⟩) 1 1]).run Tryz.prog w11 = .ok (.value (.slice p46 l46 c46)) w12 ∧
  ∃ a49 : Addr, p42 = some a49 ∧ (0 : Int) ≤ n7 ∧ n7 < (l42 : Int) ∧
  ∃ p50 : Option Addr, w12.cell? (Addr.add a49 (n7.toNat * 1)) = some (.pointer p50) ∧
  ((Option.isNone p50) = true →
  R (.bool false) w12) ∧
  ((Option.isNone p50) = false →
  K [.slice p42 l42 c42, .slice p46 l46 c46, .int .i64 (IntKind.i64.wrap (n7 + 1))] w12)) ∧
  ((decide (n7 < 4)) = false →
  Alloc #[.pointer none] 27 w6 fun k53 w13 =>
  ∃ (p54 : Option Addr) (l54 c54 : Nat), ∃ w14, (builtin .append #[25, 25] 25 #[false, false] #[.slice p5 l5 c5, .slice (some ⟨k53, 0, none⟩) 1 1]).run Tryz.prog w13 = .ok (.value (.slice p54 l54 c54)) w14 ∧
  Alloc #[.pointer none] 29 w14 fun k56 w15 =>
  ∃ (p57 : Option Addr) (l57 c57 : Nat), ∃ w16, (builtin .append #[26, 26] 26 #[false, false] #[.slice p6 l6 c6, .slice (some ⟨k56, 0, none⟩) 1 1]).run Tryz.prog w15 = .ok (.value (.slice p57 l57 c57)) w16 ∧
  LoopP (fun I_1 => I_1 [.int .i64 0] w16) fun K_1 vs_1 w17 => ∃ n8 : Int, vs_1 = [.int .i64 n8] ∧
  ((decide (n8 < (l0 : Int))) = true →
  ∃ a66 : Addr, p0 = some a66 ∧ (0 : Int) ≤ n8 ∧ n8 < (l0 : Int) ∧
  ∃ n67_0 : Int, ∃ n67_1 : Int, ∃ n67_2 : Int, ∃ s67_3 : ByteArray, (w17.cell? (Addr.add a66 (n8.toNat * 4)) = some (.int .i64 n67_0) ∧ w17.cell? (Addr.add (Addr.add a66 (n8.toNat * 4)) 1) = some (.int .u8 n67_1) ∧ w17.cell? (Addr.add (Addr.add a66 (n8.toNat * 4)) 2) = some (.int .u64 n67_2) ∧ w17.cell? (Addr.add (Addr.add a66 (n8.toNat * 4)) 3) = some (.string s67_3)) ∧
  Alloc #[.int .i64 0, .int .u8 0, .int .u64 0, .string (ByteArray.mk #[])] 32 w17 fun k9 w18 =>
  St ⟨k9, 0, none⟩ (.int .i64 n67_0) w18 fun w19 =>
  St ⟨k9, 1, none⟩ (.int .u8 n67_1) w19 fun w20 =>
  St ⟨k9, 2, none⟩ (.int .u64 n67_2) w20 fun w21 =>
  St ⟨k9, 3, none⟩ (.string s67_3) w21 fun w22 =>
  ∃ s69 : ByteArray, w22.cell? ⟨k9, 3, none⟩ = some (.string s69) ∧
  ((decide ((s69.size : Int) > 100)) = true →
  Calls Tryz.prog 4 #[] w22 fun e_5 w23 => ∃ b72 : Bool, e_5 = .returned (.bool b72) ∧
  R (.bool b72) w23) ∧
  ((decide ((s69.size : Int) > 100)) = false →
  ∃ n74 : Int, w22.cell? ⟨k9, 1, none⟩ = some (.int .u8 n74) ∧
  Join (fun vs_2 w24 => ∃ b11 : Bool, vs_2 = [.bool b11] ∧
  ∃ a206 : Addr, p54 = some a206 ∧ (0 : Int) ≤ Int.tmod (IntKind.i64.wrap n74) 4 ∧ (Int.tmod (IntKind.i64.wrap n74) 4) < (l54 : Int) ∧
  ∃ p207 : Option Addr, w24.cell? (Addr.add a206 ((Int.tmod (IntKind.i64.wrap n74) 4).toNat * 1)) = some (.pointer p207) ∧
  Calls Tryz.prog 18 #[.pointer p207] w24 fun e_6 w25 => ∃ n208_0_0 : Int, ∃ s208_0_1 : ByteArray, ∃ n208_1 : Int, e_6 = .returned (.tuple #[.agg #[.int .u64 n208_0_0, .string s208_0_1], .int .i64 n208_1]) ∧
  Alloc #[.int .u64 0, .string (ByteArray.mk #[])] 36 w25 fun k17 w26 =>
  St ⟨k17, 0, none⟩ (.int .u64 n208_0_0) w26 fun w27 =>
  St ⟨k17, 1, none⟩ (.string s208_0_1) w27 fun w28 =>
  ∃ a214 : Addr, p57 = some a214 ∧ (0 : Int) ≤ Int.tmod (IntKind.i64.wrap n74) 4 ∧ (Int.tmod (IntKind.i64.wrap n74) 4) < (l57 : Int) ∧
  ∃ p215 : Option Addr, w28.cell? (Addr.add a214 ((Int.tmod (IntKind.i64.wrap n74) 4).toNat * 1)) = some (.pointer p215) ∧
  Calls Tryz.prog 19 #[.pointer p215] w28 fun e_7 w29 => ∃ n216_0_0 : Int, ∃ s216_0_1 : ByteArray, ∃ n216_1 : Int, e_7 = .returned (.tuple #[.agg #[.int .u64 n216_0_0, .string s216_0_1], .int .i64 n216_1]) ∧
  Alloc #[.int .u64 0, .string (ByteArray.mk #[])] 38 w29 fun k19 w30 =>
  St ⟨k19, 0, none⟩ (.int .u64 n216_0_0) w30 fun w31 =>
  St ⟨k19, 1, none⟩ (.string s216_0_1) w31 fun w32 =>
  Calls Tryz.prog 20 #[.slice p54 l54 c54, .int .u64 n1] w32 fun e_8 w33 => ∃ s222_0 : ByteArray, ∃ b222_1 : Bool, e_8 = .returned (.tuple #[.string s222_0, .bool b222_1]) ∧
  Calls Tryz.prog 21 #[.slice p57 l57 c57, .int .u64 n1] w33 fun e_9 w34 => ∃ s228_0 : ByteArray, ∃ b228_1 : Bool, e_9 = .returned (.tuple #[.string s228_0, .bool b228_1]) ∧
  ((!b11) = true →
  R (.bool false) w34) ∧
  ((!b11) = false →
  ∃ n234_0 : Int, ∃ s234_1 : ByteArray, (w34.cell? ⟨k17, 0, none⟩ = some (.int .u64 n234_0) ∧ w34.cell? ⟨k17, 1, none⟩ = some (.string s234_1)) ∧
  ∃ n235_0 : Int, ∃ s235_1 : ByteArray, (w34.cell? ⟨k19, 0, none⟩ = some (.int .u64 n235_0) ∧ w34.cell? ⟨k19, 1, none⟩ = some (.string s235_1)) ∧
  ∃ b236 : Bool, ∃ w35, (do eqGuard .neq 38 (.tmp 234) (.tmp 235) (.agg #[.int .u64 n234_0, .string s234_1]) (.agg #[.int .u64 n235_0, .string s235_1]); binOp .neq 38 (.agg #[.int .u64 n234_0, .string s234_1]) (.agg #[.int .u64 n235_0, .string s235_1]) : Sem Value).run Tryz.prog w34 = .ok (.bool b236) w35 ∧
  (b236 = true →
  R (.bool false) w35) ∧
  (b236 = false →
  ((n208_1 != n216_1) = true →
  R (.bool false) w35) ∧
  ((n208_1 != n216_1) = false →
  ((!(s222_0.toList == s228_0.toList)) = true →
  R (.bool false) w35) ∧
  ((!(s222_0.toList == s228_0.toList)) = false →
  ((!(b222_1 == b228_1)) = true →
  R (.bool false) w35) ∧
  ((!(b222_1 == b228_1)) = false →
  K_1 [.int .i64 (IntKind.i64.wrap (n8 + 1))] w35)))))) fun J =>
  ∃ n78 : Int, w22.cell? ⟨k9, 0, none⟩ = some (.int .i64 n78) ∧
  ((n78 == 0) = true →
  ∃ D : World → Prop, D w22.drew ∧
  ∃ a83 : Addr, p54 = some a83 ∧ (0 : Int) ≤ Int.tmod (IntKind.i64.wrap n74) 4 ∧ (Int.tmod (IntKind.i64.wrap n74) 4) < (l54 : Int) ∧
  ∃ p84 : Option Addr, (∀ w, D w → w.cell? (Addr.add a83 ((Int.tmod (IntKind.i64.wrap n74) 4).toNat * 1)) = some (.pointer p84)) ∧
  ∃ n86 : Int, (∀ w, D w → w.cell? ⟨k9, 2, none⟩ = some (.int .u64 n86)) ∧
  ∃ s88 : ByteArray, (∀ w, D w → w.cell? ⟨k9, 3, none⟩ = some (.string s88)) ∧
  Calls Tryz.prog 7 #[.pointer p84, .agg #[.int .u64 n86, .string s88]] w22.drew fun e_10 w36 => ∃ n90 : Int, e_10 = .returned (.int .i64 n90) ∧
  D w36 ∧
  ∃ a93 : Addr, p57 = some a93 ∧ (0 : Int) ≤ Int.tmod (IntKind.i64.wrap n74) 4 ∧ (Int.tmod (IntKind.i64.wrap n74) 4) < (l57 : Int) ∧
  ∃ p94 : Option Addr, (∀ w, D w → w.cell? (Addr.add a93 ((Int.tmod (IntKind.i64.wrap n74) 4).toNat * 1)) = some (.pointer p94)) ∧
  ∃ n96 : Int, (∀ w, D w → w.cell? ⟨k9, 2, none⟩ = some (.int .u64 n96)) ∧
  ∃ s98 : ByteArray, (∀ w, D w → w.cell? ⟨k9, 3, none⟩ = some (.string s98)) ∧
  Calls Tryz.prog 8 #[.pointer p94, .agg #[.int .u64 n96, .string s98]] w36 fun e_11 w37 => ∃ n100 : Int, e_11 = .returned (.int .i64 n100) ∧
  D w37 ∧
  J [.bool (n90 == n100)] w37) ∧
  ((n78 == 0) = false →
  ((n78 == 1) = true →
  ∃ D_1 : World → Prop, D_1 w22.drew ∧
  ∃ s105 : ByteArray, (∀ w, D_1 w → w.cell? ⟨k9, 3, none⟩ = some (.string s105)) ∧
  Calls Tryz.prog 9 #[] w22.drew fun e_12 w38 => ∃ s106 : ByteArray, e_12 = .returned (.string s106) ∧
  D_1 w38 ∧
  ((s105.size + s106.size : Nat) : Int) ≤ 9223372036854775807 ∧
  ∃ s108 : ByteArray, (∀ x0, x0 = w38 → (Instr.sliceAt 9 (.string (s105 ++ s106)) none (some (.int .i64 64)) none).run Tryz.prog x0 = .ok (.string s108) x0) ∧
  ∃ D_2 : World → Prop, D_2 w38.drew ∧
  ∃ a111 : Addr, p54 = some a111 ∧ (0 : Int) ≤ Int.tmod (IntKind.i64.wrap n74) 4 ∧ (Int.tmod (IntKind.i64.wrap n74) 4) < (l54 : Int) ∧
  ∃ p112 : Option Addr, (∀ w, D_2 w → w.cell? (Addr.add a111 ((Int.tmod (IntKind.i64.wrap n74) 4).toNat * 1)) = some (.pointer p112)) ∧
  Calls Tryz.prog 10 #[.pointer p112, .int .i64 2, .string s108] w38.drew fun e_13 w39 => ∃ n114 : Int, e_13 = .returned (.int .i64 n114) ∧
  D_2 w39 ∧
  ∃ a117 : Addr, p57 = some a117 ∧ (0 : Int) ≤ Int.tmod (IntKind.i64.wrap n74) 4 ∧ (Int.tmod (IntKind.i64.wrap n74) 4) < (l57 : Int) ∧
  ∃ p118 : Option Addr, (∀ w, D_2 w → w.cell? (Addr.add a117 ((Int.tmod (IntKind.i64.wrap n74) 4).toNat * 1)) = some (.pointer p118)) ∧
  Calls Tryz.prog 11 #[.pointer p118, .int .i64 2, .string s108] w39 fun e_14 w40 => ∃ n120 : Int, e_14 = .returned (.int .i64 n120) ∧
  D_2 w40 ∧
  J [.bool (n114 == n120)] w40) ∧
  ((n78 == 1) = false →
  ((n78 == 2) = true →
  ∃ D_3 : World → Prop, D_3 w22.drew ∧
  ∃ a126 : Addr, p54 = some a126 ∧ (0 : Int) ≤ Int.tmod (IntKind.i64.wrap n74) 4 ∧ (Int.tmod (IntKind.i64.wrap n74) 4) < (l54 : Int) ∧
  ∃ p127 : Option Addr, (∀ w, D_3 w → w.cell? (Addr.add a126 ((Int.tmod (IntKind.i64.wrap n74) 4).toNat * 1)) = some (.pointer p127)) ∧
  Calls Tryz.prog 12 #[.pointer p127, .int .i64 2] w22.drew fun e_15 w41 => ∃ n128 : Int, e_15 = .returned (.int .i64 n128) ∧
  D_3 w41 ∧
  ∃ a131 : Addr, p57 = some a131 ∧ (0 : Int) ≤ Int.tmod (IntKind.i64.wrap n74) 4 ∧ (Int.tmod (IntKind.i64.wrap n74) 4) < (l57 : Int) ∧
  ∃ p132 : Option Addr, (∀ w, D_3 w → w.cell? (Addr.add a131 ((Int.tmod (IntKind.i64.wrap n74) 4).toNat * 1)) = some (.pointer p132)) ∧
  Calls Tryz.prog 13 #[.pointer p132, .int .i64 2] w41 fun e_16 w42 => ∃ n133 : Int, e_16 = .returned (.int .i64 n133) ∧
  D_3 w42 ∧
  J [.bool (n128 == n133)] w42) ∧
  ((n78 == 2) = false →
  ((n78 == 3) = true →
  ∃ a139 : Addr, p54 = some a139 ∧ (0 : Int) ≤ Int.tmod (IntKind.i64.wrap n74) 4 ∧ (Int.tmod (IntKind.i64.wrap n74) 4) < (l54 : Int) ∧
  ∃ p140 : Option Addr, w22.cell? (Addr.add a139 ((Int.tmod (IntKind.i64.wrap n74) 4).toNat * 1)) = some (.pointer p140) ∧
  Calls Tryz.prog 14 #[.pointer p140] w22 fun e_17 w43 => e_17 = .returned (.tuple #[]) ∧
  ∃ a144 : Addr, p57 = some a144 ∧ (0 : Int) ≤ Int.tmod (IntKind.i64.wrap n74) 4 ∧ (Int.tmod (IntKind.i64.wrap n74) 4) < (l57 : Int) ∧
  ∃ p145 : Option Addr, w43.cell? (Addr.add a144 ((Int.tmod (IntKind.i64.wrap n74) 4).toNat * 1)) = some (.pointer p145) ∧
  ∃ a146 : Addr, p145 = some a146 ∧
  St (a146.add 3) (.bool true) w43 fun w44 =>
  J [.bool true] w44) ∧
  ((n78 == 3) = false →
  ((n78 == 4) = true →
  ∃ n153 : Int, w22.cell? ⟨k9, 2, none⟩ = some (.int .u64 n153) ∧
  ∃ s155 : ByteArray, w22.cell? ⟨k9, 3, none⟩ = some (.string s155) ∧
  Calls Tryz.prog 15 #[.slice p54 l54 c54, .agg #[.int .u64 n153, .string s155]] w22 fun e_18 w45 => ∃ n157_0 : Int, ∃ n157_1 : Int, e_18 = .returned (.tuple #[.int .i64 n157_0, .int .i64 n157_1]) ∧
  ∃ n163 : Int, w45.cell? ⟨k9, 2, none⟩ = some (.int .u64 n163) ∧
  ∃ s165 : ByteArray, w45.cell? ⟨k9, 3, none⟩ = some (.string s165) ∧
  Calls Tryz.prog 16 #[.slice p57 l57 c57, .agg #[.int .u64 n163, .string s165]] w45 fun e_19 w46 => ∃ n167_0 : Int, ∃ n167_1 : Int, e_19 = .returned (.tuple #[.int .i64 n167_0, .int .i64 n167_1]) ∧
  ((n157_0 == n167_0) = true →
  J [.bool (n157_1 == n167_1)] w46) ∧
  ((n157_0 == n167_0) = false →
  J [.bool false] w46)) ∧
  ((n78 == 4) = false →
  ((n78 == 5) = true →
  ∃ D_4 : World → Prop, D_4 w22.drew ∧
  ∃ a182 : Addr, p54 = some a182 ∧ (0 : Int) ≤ Int.tmod (IntKind.i64.wrap n74) 4 ∧ (Int.tmod (IntKind.i64.wrap n74) 4) < (l54 : Int) ∧
  ∃ p183 : Option Addr, (∀ w, D_4 w → w.cell? (Addr.add a182 ((Int.tmod (IntKind.i64.wrap n74) 4).toNat * 1)) = some (.pointer p183)) ∧
  ∃ n185 : Int, (∀ w, D_4 w → w.cell? ⟨k9, 2, none⟩ = some (.int .u64 n185)) ∧
  ∃ s187 : ByteArray, (∀ w, D_4 w → w.cell? ⟨k9, 3, none⟩ = some (.string s187)) ∧
  Calls Tryz.prog 17 #[.string s187] w22.drew fun e_20 w47 => ∃ s188 : ByteArray, e_20 = .returned (.string s188) ∧
  D_4 w47 ∧
  Calls Tryz.prog 7 #[.pointer p183, .agg #[.int .u64 n185, .string s188]] w47 fun e_21 w48 => ∃ n190 : Int, e_21 = .returned (.int .i64 n190) ∧
  D_4 w48 ∧
  ∃ a193 : Addr, p57 = some a193 ∧ (0 : Int) ≤ Int.tmod (IntKind.i64.wrap n74) 4 ∧ (Int.tmod (IntKind.i64.wrap n74) 4) < (l57 : Int) ∧
  ∃ p194 : Option Addr, (∀ w, D_4 w → w.cell? (Addr.add a193 ((Int.tmod (IntKind.i64.wrap n74) 4).toNat * 1)) = some (.pointer p194)) ∧
  ∃ n196 : Int, (∀ w, D_4 w → w.cell? ⟨k9, 2, none⟩ = some (.int .u64 n196)) ∧
  ∃ s198 : ByteArray, (∀ w, D_4 w → w.cell? ⟨k9, 3, none⟩ = some (.string s198)) ∧
  Calls Tryz.prog 17 #[.string s198] w48 fun e_22 w49 => ∃ s199 : ByteArray, e_22 = .returned (.string s199) ∧
  D_4 w49 ∧
  Calls Tryz.prog 8 #[.pointer p194, .agg #[.int .u64 n196, .string s199]] w49 fun e_23 w50 => ∃ n201 : Int, e_23 = .returned (.int .i64 n201) ∧
  D_4 w50 ∧
  J [.bool (n190 == n201)] w50) ∧
  ((n78 == 5) = false →
  J [.bool true] w22)))))))) ∧
  ((decide (n8 < (l0 : Int))) = false →
  R (.bool true) w17))))
theorem revetmentlaw11_PagesActs_eq (p0 : Option Addr) (l0 c0 : Nat) (n1 : Int) (w : World) (R : Value → World → Prop) : revetmentlaw11_PagesActs p0 l0 c0 n1 w R = fnP Tryz.prog Tryz.f3 (.s .o (.s .o (.s .o (.s .o (.s (.s .o (.b (.l [(5, .one .slice), (6, .one .slice), (7, .one (.int .i64))] .o))) (.s .o (.s .o (.s (.s .o (.b (.l [(8, .one (.int .i64))] (.s .o (.s (.b (.s .o (.s .o (.s .o (.s .o (.j [(11, .one .bool)] .o .o)))))) .o))))) .o)))))))) [.slice p0 l0 c0, .int .u64 n1] w R := by kernel_rfl
theorem revetmentlaw11_PagesActs_calls {p0 : Option Addr} {l0 c0 : Nat} {n1 : Int} {w : World} {R : Value → World → Prop} (h : revetmentlaw11_PagesActs p0 l0 c0 n1 w R) : Calls Tryz.prog 3 #[.slice p0 l0 c0, .int .u64 n1] w fun e w1 => ∃ v, e = .returned v ∧ R v w1 := fnP_calls callable Tryz.func3 (revetmentlaw11_PagesActs_eq p0 l0 c0 n1 w R ▸ h)

/-- revetment/revetmentlaw11.shown -/
def revetmentlaw11_shown (w : World) (R : Value → World → Prop) : Prop :=
  Calls Tryz.prog 5 #[.int .i64 4] w fun e w1 => ∃ p4 : Option Addr, e = .returned (.pointer p4) ∧
  ((Option.isNone p4) = true →
  R (.bool false) w1) ∧
  ((Option.isNone p4) = false →
  Calls Tryz.prog 17 #[.string (ByteArray.mk #[97])] w1 fun e_1 w2 => ∃ s9 : ByteArray, e_1 = .returned (.string s9) ∧
  Calls Tryz.prog 7 #[.pointer p4, .agg #[.int .u64 5, .string s9]] w2 fun e_2 w3 => ∃ n11 : Int, e_2 = .returned (.int .i64 n11) ∧
  ((n11 != 0) = true →
  R (.bool false) w3) ∧
  ((n11 != 0) = false →
  Calls Tryz.prog 18 #[.pointer p4] w3 fun e_3 w4 => ∃ n16_0_0 : Int, ∃ s16_0_1 : ByteArray, ∃ n16_1 : Int, e_3 = .returned (.tuple #[.agg #[.int .u64 n16_0_0, .string s16_0_1], .int .i64 n16_1]) ∧
  Alloc #[.int .u64 0, .string (ByteArray.mk #[])] 36 w4 fun k2 w5 =>
  St ⟨k2, 0, none⟩ (.int .u64 n16_0_0) w5 fun w6 =>
  St ⟨k2, 1, none⟩ (.string s16_0_1) w6 fun w7 =>
  ∃ D : World → Prop, D w7.drew ∧
  ((n16_1 == 0) = true →
  ∃ n23 : Int, (∀ w, D w → w.cell? ⟨k2, 0, none⟩ = some (.int .u64 n23)) ∧
  ((n23 == 5) = true →
  ∃ s28 : ByteArray, (∀ w, D w → w.cell? ⟨k2, 1, none⟩ = some (.string s28)) ∧
  Calls Tryz.prog 17 #[.string (ByteArray.mk #[97])] w7.drew fun e_4 w8 => ∃ s29 : ByteArray, e_4 = .returned (.string s29) ∧
  D w8 ∧
  R (.bool (s28.toList == s29.toList)) w8) ∧
  ((n23 == 5) = false →
  R (.bool false) w7.drew)) ∧
  ((n16_1 == 0) = false →
  R (.bool false) w7.drew)))
theorem revetmentlaw11_shown_eq (w : World) (R : Value → World → Prop) : revetmentlaw11_shown w R = fnP Tryz.prog Tryz.f4 .o [] w R := by kernel_rfl
theorem revetmentlaw11_shown_calls {w : World} {R : Value → World → Prop} (h : revetmentlaw11_shown w R) : Calls Tryz.prog 4 #[] w fun e w1 => ∃ v, e = .returned v ∧ R v w1 := fnP_calls callable Tryz.func4 (revetmentlaw11_shown_eq w R ▸ h)

/-- revetment/pages.Save -/
def pages_Save (p0 : Option Addr) (n1_0 : Int) (s1_1 : ByteArray) (w : World) (R : Value → World → Prop) : Prop :=
  Alloc #[.pointer p0] 27 w fun k2 w1 =>
  Alloc #[.int .u64 n1_0, .string s1_1] 36 w1 fun k3 w2 =>
  ∃ n10_0 : Int, ∃ s10_1 : ByteArray, (w2.cell? ⟨k3, 0, none⟩ = some (.int .u64 n10_0) ∧ w2.cell? ⟨k3, 1, none⟩ = some (.string s10_1)) ∧
  Calls Tryz.prog 22 #[.agg #[.int .u64 n10_0, .string s10_1]] w2 fun e w3 => ∃ s11_0 : ByteArray, ∃ n11_1 : Int, e = .returned (.tuple #[.string s11_0, .int .i64 n11_1]) ∧
  Alloc #[.string (ByteArray.mk #[])] 9 w3 fun k5 w4 =>
  St ⟨k5, 0, none⟩ (.string s11_0) w4 fun w5 =>
  Alloc #[.func (.func 23) #[] #[.pointer (some ⟨k2, 0, none⟩), .pointer (some ⟨k5, 0, none⟩)], .func (.func 24) #[] #[.pointer (some ⟨k2, 0, none⟩)]] 66 w5 fun k16 w6 =>
  LoopP (fun I => I [.int .i64 n11_1, .int .i64 0] w6) fun K vs w7 => ∃ n6 : Int, ∃ n18 : Int, vs = [.int .i64 n6, .int .i64 n18] ∧
  ((decide (n18 < (2 : Int))) = true →
  ∃ a20 : Addr, (some ⟨k16, 0, none⟩) = some a20 ∧ (0 : Int) ≤ n18 ∧ n18 < (2 : Int) ∧
  ∃ v21 : Value, w7.cell? (Addr.add a20 (n18.toNat * 1)) = some (v21) ∧
  ((n6 == 0) = true →
  CallF Tryz.prog v21 [] w7 fun e_1 w8 => ∃ n25 : Int, e_1 = .returned (.int .i64 n25) ∧
  K [.int .i64 n25, .int .i64 (IntKind.i64.wrap (n18 + 1))] w8) ∧
  ((n6 == 0) = false →
  K [.int .i64 n6, .int .i64 (IntKind.i64.wrap (n18 + 1))] w7)) ∧
  ((decide (n18 < (2 : Int))) = false →
  R (.int .i64 n6) w7)
theorem pages_Save_eq (p0 : Option Addr) (n1_0 : Int) (s1_1 : ByteArray) (w : World) (R : Value → World → Prop) : pages_Save p0 n1_0 s1_1 w R = fnP Tryz.prog Tryz.f7 (.s .o (.s .o (.s (.s .o (.b (.l [(6, .one (.int .i64)), (18, .one (.int .i64))] .o))) .o))) [.pointer p0, .agg #[.int .u64 n1_0, .string s1_1]] w R := by kernel_rfl
theorem pages_Save_calls {p0 : Option Addr} {n1_0 : Int} {s1_1 : ByteArray} {w : World} {R : Value → World → Prop} (h : pages_Save p0 n1_0 s1_1 w R) : Calls Tryz.prog 7 #[.pointer p0, .agg #[.int .u64 n1_0, .string s1_1]] w fun e w1 => ∃ v, e = .returned v ∧ R v w1 := fnP_calls callable Tryz.func7 (pages_Save_eq p0 n1_0 s1_1 w R ▸ h)

/-- revetment/pages.All -/
def pages_All (p0 : Option Addr) (l0 c0 : Nat) (n1_0 : Int) (s1_1 : ByteArray) (w : World) (R : Value → World → Prop) : Prop :=
  Alloc #[.int .u64 n1_0, .string s1_1] 36 w fun k3 w1 =>
  ∃ n11_0 : Int, ∃ s11_1 : ByteArray, (w1.cell? ⟨k3, 0, none⟩ = some (.int .u64 n11_0) ∧ w1.cell? ⟨k3, 1, none⟩ = some (.string s11_1)) ∧
  Calls Tryz.prog 22 #[.agg #[.int .u64 n11_0, .string s11_1]] w1 fun e w2 => ∃ s12_0 : ByteArray, ∃ n12_1 : Int, e = .returned (.tuple #[.string s12_0, .int .i64 n12_1]) ∧
  ((n12_1 != 0) = true →
  R (.tuple #[.int .i64 0, .int .i64 n12_1]) w2) ∧
  ((n12_1 != 0) = false →
  Alloc #[.int .i64 0] 3 w2 fun k8 w3 =>
  St ⟨k8, 0, none⟩ (.int .i64 0) w3 fun w4 =>
  Calls Tryz.prog 33 #[.slice p0 l0 c0] w4 fun e_1 w5 => ∃ v19 : Value, e_1 = .returned v19 ∧
  RangeP Tryz.prog v19 (fun ob l args W Φ => ∃ p20 : Option Addr, args = [.pointer p20] ∧
  RoundP ob l Φ (fun K X R w6 =>
  ∃ n22_0 : Int, ∃ s22_1 : ByteArray, (w6.cell? ⟨k3, 0, none⟩ = some (.int .u64 n22_0) ∧ w6.cell? ⟨k3, 1, none⟩ = some (.string s22_1)) ∧
  Calls Tryz.prog 7 #[.pointer p20, .agg #[.int .u64 n22_0, .string s22_1]] w6 fun e_2 w7 => ∃ n23 : Int, e_2 = .returned (.int .i64 n23) ∧
  ((n23 == 0) = true →
  ∃ n25 : Int, w7.cell? ⟨k8, 0, none⟩ = some (.int .i64 n25) ∧
  St ⟨k8, 0, none⟩ (.int .i64 (IntKind.i64.wrap (n25 + 1))) w7 fun w8 =>
  K w8) ∧
  ((n23 == 0) = false →
  K w7)) W) []
  (fun d w9 =>
  ∃ n27 : Int, w9.cell? ⟨k8, 0, none⟩ = some (.int .i64 n27) ∧
  ((n27 == 0) = true →
  w9.heap[d]? = some (.deferred (some [])) ∧
  R (.tuple #[.int .i64 0, .int .i64 60]) (w9.putObj d (.deferred none))) ∧
  ((n27 == 0) = false →
  ∃ n29 : Int, w9.cell? ⟨k8, 0, none⟩ = some (.int .i64 n29) ∧
  w9.heap[d]? = some (.deferred (some [])) ∧
  R (.tuple #[.int .i64 n29, .int .i64 0]) (w9.putObj d (.deferred none))))
  (fun d_1 w10 =>
  w10.heap[d_1]? = some (.deferred (some [])) ∧
  R (.tuple #[.int .i64 0, .int .i64 0]) (w10.putObj d_1 (.deferred none))) w5)
theorem pages_All_eq (p0 : Option Addr) (l0 c0 : Nat) (n1_0 : Int) (s1_1 : ByteArray) (w : World) (R : Value → World → Prop) : pages_All p0 l0 c0 n1_0 s1_1 w R = fnP Tryz.prog Tryz.f15 (.s .o (.s .o (.s .o (.s (.s .o (.b (.rf [(20, .one .ptr)] .o))) .o)))) [.slice p0 l0 c0, .agg #[.int .u64 n1_0, .string s1_1]] w R := by kernel_rfl
theorem pages_All_calls {p0 : Option Addr} {l0 c0 : Nat} {n1_0 : Int} {s1_1 : ByteArray} {w : World} {R : Value → World → Prop} (h : pages_All p0 l0 c0 n1_0 s1_1 w R) : Calls Tryz.prog 15 #[.slice p0 l0 c0, .agg #[.int .u64 n1_0, .string s1_1]] w fun e w1 => ∃ v, e = .returned v ∧ R v w1 := fnP_calls callable Tryz.func15 (pages_All_eq p0 l0 c0 n1_0 s1_1 w R ▸ h)

/-- revetment/revetmentlaw11.bits -/
def revetmentlaw11_bits (s0 : ByteArray) (w : World) (R : Value → World → Prop) : Prop :=
  ((s0.size + (ByteArray.mk #[0, 0, 0, 0, 0, 0, 0, 0]).size : Nat) : Int) ≤ 9223372036854775807 ∧
  ∃ s5 : ByteArray, ∃ w1, (Instr.sliceAt 9 (.string (s0 ++ (ByteArray.mk #[0, 0, 0, 0, 0, 0, 0, 0]))) none (some (.int .i64 8)) none).run Tryz.prog w = .ok (.string s5) w1 ∧
  R (.string s5) w1
theorem revetmentlaw11_bits_eq (s0 : ByteArray) (w : World) (R : Value → World → Prop) : revetmentlaw11_bits s0 w R = fnP Tryz.prog Tryz.f17 .o [.string s0] w R := by kernel_rfl
theorem revetmentlaw11_bits_calls {s0 : ByteArray} {w : World} {R : Value → World → Prop} (h : revetmentlaw11_bits s0 w R) : Calls Tryz.prog 17 #[.string s0] w fun e w1 => ∃ v, e = .returned v ∧ R v w1 := fnP_calls callable Tryz.func17 (revetmentlaw11_bits_eq s0 w R ▸ h)

/-- revetment/pages.Load -/
def pages_Load (p0 : Option Addr) (w : World) (R : Value → World → Prop) : Prop :=
  Alloc #[.int .u64 0, .string (ByteArray.mk #[])] 36 w fun k2 w1 =>
  Calls Tryz.prog 34 #[.pointer p0, .int .i64 2] w1 fun e w2 => ∃ s8_0 : ByteArray, ∃ n8_1 : Int, e = .returned (.tuple #[.string s8_0, .int .i64 n8_1]) ∧
  ((n8_1 != 0) = true →
  St ⟨k2, 0, none⟩ (.int .u64 0) w2 fun w3 =>
  St ⟨k2, 1, none⟩ (.string (ByteArray.mk #[])) w3 fun w4 =>
  ∃ nr2_0 : Int, ∃ sr2_1 : ByteArray, (w4.cell? ⟨k2, 0, none⟩ = some (.int .u64 nr2_0) ∧ w4.cell? ⟨k2, 1, none⟩ = some (.string sr2_1)) ∧
  R (.tuple #[.agg #[.int .u64 nr2_0, .string sr2_1], .int .i64 n8_1]) w4) ∧
  ((n8_1 != 0) = false →
  Calls Tryz.prog 35 #[.string s8_0] w2 fun e_1 w5 => ∃ n16_0_0 : Int, ∃ s16_0_1 : ByteArray, ∃ n16_1 : Int, e_1 = .returned (.tuple #[.agg #[.int .u64 n16_0_0, .string s16_0_1], .int .i64 n16_1]) ∧
  St ⟨k2, 0, none⟩ (.int .u64 n16_0_0) w5 fun w6 =>
  St ⟨k2, 1, none⟩ (.string s16_0_1) w6 fun w7 =>
  ∃ nr2_0_1 : Int, ∃ sr2_1_1 : ByteArray, (w7.cell? ⟨k2, 0, none⟩ = some (.int .u64 nr2_0_1) ∧ w7.cell? ⟨k2, 1, none⟩ = some (.string sr2_1_1)) ∧
  R (.tuple #[.agg #[.int .u64 nr2_0_1, .string sr2_1_1], .int .i64 n16_1]) w7)
theorem pages_Load_eq (p0 : Option Addr) (w : World) (R : Value → World → Prop) : pages_Load p0 w R = fnP Tryz.prog Tryz.f18 .o [.pointer p0] w R := by kernel_rfl
theorem pages_Load_calls {p0 : Option Addr} {w : World} {R : Value → World → Prop} (h : pages_Load p0 w R) : Calls Tryz.prog 18 #[.pointer p0] w fun e w1 => ∃ v, e = .returned v ∧ R v w1 := fnP_calls callable Tryz.func18 (pages_Load_eq p0 w R ▸ h)

/-- revetment/pages.Join -/
def pages_Join (p0 : Option Addr) (l0 c0 : Nat) (n1 : Int) (w : World) (R : Value → World → Prop) : Prop :=
  Alloc #[.int .u64 n1] 23 w fun k3 w1 =>
  Alloc #[.int .u8 0, .int .u8 0, .int .u8 0, .int .u8 0, .int .u8 0, .int .u8 0, .int .u8 0, .int .u8 0] 79 w1 fun k6 w2 =>
  Alloc #[.bool false] 4 w2 fun k7 w3 =>
  St ⟨k7, 0, none⟩ (.bool false) w3 fun w4 =>
  Calls Tryz.prog 33 #[.slice p0 l0 c0] w4 fun e w5 => ∃ v13 : Value, e = .returned v13 ∧
  RangeP Tryz.prog v13 (fun ob l args W Φ => ∃ p14 : Option Addr, args = [.pointer p14] ∧
  RoundP ob l Φ (fun K X R w6 =>
  Calls Tryz.prog 18 #[.pointer p14] w6 fun e_1 w7 => ∃ n17_0_0 : Int, ∃ s17_0_1 : ByteArray, ∃ n17_1 : Int, e_1 = .returned (.tuple #[.agg #[.int .u64 n17_0_0, .string s17_0_1], .int .i64 n17_1]) ∧
  Alloc #[.int .u64 0, .string (ByteArray.mk #[])] 36 w7 fun k9 w8 =>
  St ⟨k9, 0, none⟩ (.int .u64 n17_0_0) w8 fun w9 =>
  St ⟨k9, 1, none⟩ (.string s17_0_1) w9 fun w10 =>
  ((n17_1 != 0) = true →
  K w10) ∧
  ((n17_1 != 0) = false →
  ∃ n24 : Int, w10.cell? ⟨k9, 0, none⟩ = some (.int .u64 n24) ∧
  ∃ n25 : Int, w10.cell? ⟨k3, 0, none⟩ = some (.int .u64 n25) ∧
  ((decide (n24 < n25)) = true →
  K w10) ∧
  ((decide (n24 < n25)) = false →
  St ⟨k7, 0, none⟩ (.bool true) w10 fun w11 =>
  LoopP (fun I => I [.int .i64 0] w11) fun K_1 vs w12 => ∃ n28 : Int, vs = [.int .i64 n28] ∧
  ((decide (n28 < 8)) = true →
  ∃ D : World → Prop, D w12.drew ∧
  (0 : Int) ≤ n28 ∧ n28 < (8 : Int) ∧
  ∃ n33 : Int, (∀ w, D w → w.cell? (Addr.add ⟨k6, 0, none⟩ (n28.toNat * 1)) = some (.int .u8 n33)) ∧
  ∃ s35 : ByteArray, (∀ w, D w → w.cell? ⟨k9, 1, none⟩ = some (.string s35)) ∧
  ∃ n37 : Int, (∀ w, D w → (Instr.index 9 (.string s35) (.int .i64 n28)).run Tryz.prog w = .ok (.int .u8 n37) w) ∧
  (0 : Int) ≤ n28 ∧ n28 < (8 : Int) ∧
  St (Addr.add ⟨k6, 0, none⟩ (n28.toNat * 1)) (.int .u8 (bits2 .or .u8 n33 n37)) w12.drew fun w13 =>
  K_1 [.int .i64 (IntKind.i64.wrap (n28 + 1))] w13) ∧
  ((decide (n28 < 8)) = false →
  K w12)))) W) []
  (fun d w14 =>
  ∃ D_1 : World → Prop, D_1 w14.drew ∧
  ∃ (p41 : Option Addr) (l41 c41 : Nat), (∀ w, D_1 w → (Instr.sliceAt 79 (.pointer (some ⟨k6, 0, none⟩)) none none none).run Tryz.prog w = .ok (.slice p41 l41 c41) w) ∧
  ∃ s42 : ByteArray, (∀ w, D_1 w → (convert 80 9 (.slice p41 l41 c41)).run Tryz.prog w = .ok (.string s42) w) ∧
  ∃ b43 : Bool, (∀ w, D_1 w → w.cell? ⟨k7, 0, none⟩ = some (.bool b43)) ∧
  w14.drew.heap[d]? = some (.deferred (some [])) ∧
  R (.tuple #[.string s42, .bool b43]) (w14.drew.putObj d (.deferred none)))
  (fun d_1 w15 =>
  w15.heap[d_1]? = some (.deferred (some [])) ∧
  R (.tuple #[.string (ByteArray.mk #[]), .bool false]) (w15.putObj d_1 (.deferred none))) w5
theorem pages_Join_eq (p0 : Option Addr) (l0 c0 : Nat) (n1 : Int) (w : World) (R : Value → World → Prop) : pages_Join p0 l0 c0 n1 w R = fnP Tryz.prog Tryz.f20 (.s .o (.s .o (.s .o (.s (.s .o (.b (.rf [(14, .one .ptr)] (.b (.s .o (.s .o (.s .o (.s .o (.b (.l [(28, .one (.int .i64))] .o)))))))))) .o)))) [.slice p0 l0 c0, .int .u64 n1] w R := by kernel_rfl
theorem pages_Join_calls {p0 : Option Addr} {l0 c0 : Nat} {n1 : Int} {w : World} {R : Value → World → Prop} (h : pages_Join p0 l0 c0 n1 w R) : Calls Tryz.prog 20 #[.slice p0 l0 c0, .int .u64 n1] w fun e w1 => ∃ v, e = .returned v ∧ R v w1 := fnP_calls callable Tryz.func20 (pages_Join_eq p0 l0 c0 n1 w R ▸ h)

/-- revetment/pages.Encode -/
def pages_Encode (n0_0 : Int) (s0_1 : ByteArray) (w : World) (R : Value → World → Prop) : Prop :=
  Alloc #[.int .u64 n0_0, .string s0_1] 36 w fun k1 w1 =>
  ∃ s9 : ByteArray, w1.cell? ⟨k1, 1, none⟩ = some (.string s9) ∧
  (((s9.size : Int) != 8) = true →
  R (.tuple #[.string (ByteArray.mk #[]), .int .i64 1]) w1) ∧
  (((s9.size : Int) != 8) = false →
  ∃ n14 : Int, w1.cell? ⟨k1, 0, none⟩ = some (.int .u64 n14) ∧
  Alloc #[.int .u64 n14] 23 w1 fun k15 w2 =>
  Alloc #[.int .i64 8] 3 w2 fun k16 w3 =>
  Calls Tryz.prog 38 #[.slice (some ⟨k15, 0, none⟩) 1 1, .slice (some ⟨k16, 0, none⟩) 1 1] w3 fun e w4 => ∃ s17_0 : ByteArray, ∃ n17_1 : Int, e = .returned (.tuple #[.string s17_0, .int .i64 n17_1]) ∧
  (((ByteArray.mk #[82, 86, 84, 66]).size + s17_0.size : Nat) : Int) ≤ 9223372036854775807 ∧
  ∃ s24 : ByteArray, w4.cell? ⟨k1, 1, none⟩ = some (.string s24) ∧
  ((((ByteArray.mk #[82, 86, 84, 66]) ++ s17_0).size + s24.size : Nat) : Int) ≤ 9223372036854775807 ∧
  Calls Tryz.prog 39 #[.string (((ByteArray.mk #[82, 86, 84, 66]) ++ s17_0) ++ s24), .int .i64 64] w4 fun e_1 w5 => ∃ s26_0 : ByteArray, ∃ b26_1 : Bool, e_1 = .returned (.tuple #[.string s26_0, .bool b26_1]) ∧
  R (.tuple #[.string s26_0, .int .i64 0]) w5)
theorem pages_Encode_eq (n0_0 : Int) (s0_1 : ByteArray) (w : World) (R : Value → World → Prop) : pages_Encode n0_0 s0_1 w R = fnP Tryz.prog Tryz.f22 .o [.agg #[.int .u64 n0_0, .string s0_1]] w R := by kernel_rfl
theorem pages_Encode_calls {n0_0 : Int} {s0_1 : ByteArray} {w : World} {R : Value → World → Prop} (h : pages_Encode n0_0 s0_1 w R) : Calls Tryz.prog 22 #[.agg #[.int .u64 n0_0, .string s0_1]] w fun e w1 => ∃ v, e = .returned v ∧ R v w1 := fnP_calls callable Tryz.func22 (pages_Encode_eq n0_0 s0_1 w R ▸ h)

/-- revetment/pages.Save$1 -/
def pages_Save_1 (k0 : Addr) (k1 : Addr) (w : World) (R : Value → World → Prop) : Prop :=
  ∃ p3 : Option Addr, w.cell? k0 = some (.pointer p3) ∧
  ∃ s4 : ByteArray, w.cell? k1 = some (.string s4) ∧
  Calls Tryz.prog 10 #[.pointer p3, .int .i64 2, .string s4] w fun e w1 => ∃ n5 : Int, e = .returned (.int .i64 n5) ∧
  R (.int .i64 n5) w1
theorem pages_Save_1_eq (k0 : Addr) (k1 : Addr) (w : World) (R : Value → World → Prop) : pages_Save_1 k0 k1 w R = fnP Tryz.prog Tryz.f23 .o [.pointer (some k0), .pointer (some k1)] w R := by kernel_rfl
theorem pages_Save_1_calls {k0 : Addr} {k1 : Addr} {w : World} {R : Value → World → Prop} (h : pages_Save_1 k0 k1 w R) : Calls Tryz.prog 23 #[.pointer (some k0), .pointer (some k1)] w fun e w1 => ∃ v, e = .returned v ∧ R v w1 := fnP_calls callable Tryz.func23 (pages_Save_1_eq k0 k1 w R ▸ h)

/-- revetment/pages.Save$2 -/
def pages_Save_2 (k0 : Addr) (w : World) (R : Value → World → Prop) : Prop :=
  ∃ p2 : Option Addr, w.cell? k0 = some (.pointer p2) ∧
  Calls Tryz.prog 25 #[.pointer p2] w fun e w1 => ∃ n3 : Int, e = .returned (.int .i64 n3) ∧
  R (.int .i64 n3) w1
theorem pages_Save_2_eq (k0 : Addr) (w : World) (R : Value → World → Prop) : pages_Save_2 k0 w R = fnP Tryz.prog Tryz.f24 .o [.pointer (some k0)] w R := by kernel_rfl
theorem pages_Save_2_calls {k0 : Addr} {w : World} {R : Value → World → Prop} (h : pages_Save_2 k0 w R) : Calls Tryz.prog 24 #[.pointer (some k0)] w fun e w1 => ∃ v, e = .returned v ∧ R v w1 := fnP_calls callable Tryz.func24 (pages_Save_2_eq k0 w R ▸ h)

/-- revetment/pages.drives -/
def pages_drives (p0 : Option Addr) (l0 c0 : Nat) (w : World) (R : Value → World → Prop) : Prop :=
  Alloc #[.slice p0 l0 c0] 25 w fun k1 w1 =>
  R (.func (.func 47) #[] #[.pointer (some ⟨k1, 0, none⟩)]) w1
theorem pages_drives_eq (p0 : Option Addr) (l0 c0 : Nat) (w : World) (R : Value → World → Prop) : pages_drives p0 l0 c0 w R = fnP Tryz.prog Tryz.f33 .o [.slice p0 l0 c0] w R := by kernel_rfl
theorem pages_drives_calls {p0 : Option Addr} {l0 c0 : Nat} {w : World} {R : Value → World → Prop} (h : pages_drives p0 l0 c0 w R) : Calls Tryz.prog 33 #[.slice p0 l0 c0] w fun e w1 => ∃ v, e = .returned v ∧ R v w1 := fnP_calls callable Tryz.func33 (pages_drives_eq p0 l0 c0 w R ▸ h)

/-- revetment/pages.Decode -/
def pages_Decode (s0 : ByteArray) (w : World) (R : Value → World → Prop) : Prop :=
  Alloc #[.int .u64 0, .string (ByteArray.mk #[])] 36 w fun k2 w1 =>
  (((s0.size : Int) != 64) = true →
  St ⟨k2, 0, none⟩ (.int .u64 0) w1 fun w2 =>
  St ⟨k2, 1, none⟩ (.string (ByteArray.mk #[])) w2 fun w3 =>
  ∃ nr2_0 : Int, ∃ sr2_1 : ByteArray, (w3.cell? ⟨k2, 0, none⟩ = some (.int .u64 nr2_0) ∧ w3.cell? ⟨k2, 1, none⟩ = some (.string sr2_1)) ∧
  R (.tuple #[.agg #[.int .u64 nr2_0, .string sr2_1], .int .i64 31]) w3) ∧
  (((s0.size : Int) != 64) = false →
  Calls Tryz.prog 48 #[.string s0] w1 fun e w4 => ∃ s14_0 : ByteArray, ∃ b14_1 : Bool, e = .returned (.tuple #[.string s14_0, .bool b14_1]) ∧
  ((!b14_1) = true →
  St ⟨k2, 0, none⟩ (.int .u64 0) w4 fun w5 =>
  St ⟨k2, 1, none⟩ (.string (ByteArray.mk #[])) w5 fun w6 =>
  ∃ nr2_0_1 : Int, ∃ sr2_1_1 : ByteArray, (w6.cell? ⟨k2, 0, none⟩ = some (.int .u64 nr2_0_1) ∧ w6.cell? ⟨k2, 1, none⟩ = some (.string sr2_1_1)) ∧
  R (.tuple #[.agg #[.int .u64 nr2_0_1, .string sr2_1_1], .int .i64 80]) w6) ∧
  ((!b14_1) = false →
  Calls Tryz.prog 49 #[.string s14_0, .string (ByteArray.mk #[82, 86, 84, 66])] w4 fun e_1 w7 => ∃ s22_0 : ByteArray, ∃ b22_1 : Bool, e_1 = .returned (.tuple #[.string s22_0, .bool b22_1]) ∧
  ((!b22_1) = true →
  St ⟨k2, 0, none⟩ (.int .u64 0) w7 fun w8 =>
  St ⟨k2, 1, none⟩ (.string (ByteArray.mk #[])) w8 fun w9 =>
  ∃ nr2_0_2 : Int, ∃ sr2_1_2 : ByteArray, (w9.cell? ⟨k2, 0, none⟩ = some (.int .u64 nr2_0_2) ∧ w9.cell? ⟨k2, 1, none⟩ = some (.string sr2_1_2)) ∧
  R (.tuple #[.agg #[.int .u64 nr2_0_2, .string sr2_1_2], .int .i64 81]) w9) ∧
  ((!b22_1) = false →
  ∃ s31 : ByteArray, ∃ w10, (Instr.sliceAt 9 (.string s22_0) (some (.int .i64 16)) none none).run Tryz.prog w7 = .ok (.string s31) w10 ∧
  Calls Tryz.prog 50 #[.string s31, .string (ByteArray.mk #[0])] w10 fun e_2 w11 => ∃ s32 : ByteArray, e_2 = .returned (.string s32) ∧
  ((!(s32.toList == (ByteArray.mk #[]).toList)) = true →
  St ⟨k2, 0, none⟩ (.int .u64 0) w11 fun w12 =>
  St ⟨k2, 1, none⟩ (.string (ByteArray.mk #[])) w12 fun w13 =>
  ∃ nr2_0_3 : Int, ∃ sr2_1_3 : ByteArray, (w13.cell? ⟨k2, 0, none⟩ = some (.int .u64 nr2_0_3) ∧ w13.cell? ⟨k2, 1, none⟩ = some (.string sr2_1_3)) ∧
  R (.tuple #[.agg #[.int .u64 nr2_0_3, .string sr2_1_3], .int .i64 1]) w13) ∧
  ((!(s32.toList == (ByteArray.mk #[]).toList)) = false →
  ∃ s37 : ByteArray, ∃ w14, (Instr.sliceAt 9 (.string s22_0) none (some (.int .i64 8)) none).run Tryz.prog w11 = .ok (.string s37) w14 ∧
  Alloc #[.int .i64 8] 3 w14 fun k38 w15 =>
  Calls Tryz.prog 51 #[.string s37, .slice (some ⟨k38, 0, none⟩) 1 1] w15 fun e_3 w16 => ∃ (p39_0 : Option Addr) (l39_0 c39_0 : Nat), ∃ n39_1 : Int, e_3 = .returned (.tuple #[.slice p39_0 l39_0 c39_0, .int .i64 n39_1]) ∧
  ((n39_1 != 0) = true →
  St ⟨k2, 0, none⟩ (.int .u64 0) w16 fun w17 =>
  St ⟨k2, 1, none⟩ (.string (ByteArray.mk #[])) w17 fun w18 =>
  ∃ nr2_0_4 : Int, ∃ sr2_1_4 : ByteArray, (w18.cell? ⟨k2, 0, none⟩ = some (.int .u64 nr2_0_4) ∧ w18.cell? ⟨k2, 1, none⟩ = some (.string sr2_1_4)) ∧
  R (.tuple #[.agg #[.int .u64 nr2_0_4, .string sr2_1_4], .int .i64 n39_1]) w18) ∧
  ((n39_1 != 0) = false →
  ∃ D : World → Prop, D w16.drew ∧
  ∃ a47 : Addr, p39_0 = some a47 ∧ (0 : Int) ≤ 0 ∧ 0 < (l39_0 : Int) ∧
  ∃ n48 : Int, (∀ w, D w → w.cell? a47 = some (.int .u64 n48)) ∧
  ∃ s50 : ByteArray, (∀ w, D w → (Instr.sliceAt 9 (.string s22_0) (some (.int .i64 8)) (some (.int .i64 16)) none).run Tryz.prog w = .ok (.string s50) w) ∧
  St ⟨k2, 0, none⟩ (.int .u64 n48) w16.drew fun w19 =>
  St ⟨k2, 1, none⟩ (.string s50) w19 fun w20 =>
  D w20 ∧
  ∃ nr2_0_5 : Int, ∃ sr2_1_5 : ByteArray, (w20.cell? ⟨k2, 0, none⟩ = some (.int .u64 nr2_0_5) ∧ w20.cell? ⟨k2, 1, none⟩ = some (.string sr2_1_5)) ∧
  R (.tuple #[.agg #[.int .u64 nr2_0_5, .string sr2_1_5], .int .i64 0]) w20)))))
theorem pages_Decode_eq (s0 : ByteArray) (w : World) (R : Value → World → Prop) : pages_Decode s0 w R = fnP Tryz.prog Tryz.f35 .o [.string s0] w R := by kernel_rfl
theorem pages_Decode_calls {s0 : ByteArray} {w : World} {R : Value → World → Prop} (h : pages_Decode s0 w R) : Calls Tryz.prog 35 #[.string s0] w fun e w1 => ∃ v, e = .returned v ∧ R v w1 := fnP_calls callable Tryz.func35 (pages_Decode_eq s0 w R ▸ h)

/-- revetment/pack.Encode -/
def pack_Encode (p0 : Option Addr) (l0 c0 : Nat) (p1 : Option Addr) (l1 c1 : Nat) (w : World) (R : Value → World → Prop) : Prop :=
  Alloc #[.slice p0 l0 c0] 82 w fun k2 w1 =>
  Calls Tryz.prog 54 #[.slice p1 l1 c1] w1 fun e w2 => ∃ n15_0 : Int, ∃ n15_1 : Int, e = .returned (.tuple #[.int .i64 n15_0, .int .i64 n15_1]) ∧
  ((n15_1 != 0) = true →
  R (.tuple #[.string (ByteArray.mk #[]), .int .i64 n15_1]) w2) ∧
  ((n15_1 != 0) = false →
  ∃ (p23 : Option Addr) (l23 c23 : Nat), w2.cell? ⟨k2, 0, none⟩ = some (.slice p23 l23 c23) ∧
  (((l23 : Int) != (l1 : Int)) = true →
  R (.tuple #[.string (ByteArray.mk #[]), .int .i64 1]) w2) ∧
  (((l23 : Int) != (l1 : Int)) = false →
  LoopP (fun I => I [.string (ByteArray.mk #[]), .int .i64 0, .int .i64 0] w2) fun K vs w3 => ∃ s4 : ByteArray, ∃ n5 : Int, ∃ n30 : Int, vs = [.string s4, .int .i64 n5, .int .i64 n30] ∧
  ((decide (n30 < (l1 : Int))) = true →
  ∃ a33 : Addr, p1 = some a33 ∧ (0 : Int) ≤ n30 ∧ n30 < (l1 : Int) ∧
  ∃ n34 : Int, w3.cell? (Addr.add a33 (n30.toNat * 1)) = some (.int .i64 n34) ∧
  ∃ (p35 : Option Addr) (l35 c35 : Nat), w3.cell? ⟨k2, 0, none⟩ = some (.slice p35 l35 c35) ∧
  ∃ a37 : Addr, p35 = some a37 ∧ (0 : Int) ≤ n30 ∧ n30 < (l35 : Int) ∧
  ∃ n38 : Int, w3.cell? (Addr.add a37 (n30.toNat * 1)) = some (.int .u64 n38) ∧
  Calls Tryz.prog 55 #[.int .u64 n38, .int .i64 n34] w3 fun e_1 w4 => ∃ b40 : Bool, e_1 = .returned (.bool b40) ∧
  ((!b40) = true →
  R (.tuple #[.string (ByteArray.mk #[]), .int .i64 30]) w4) ∧
  ((!b40) = false →
  K [.string s4, .int .i64 n5, .int .i64 (IntKind.i64.wrap (n30 + 1))] w4)) ∧
  ((decide (n30 < (l1 : Int))) = false →
  ∃ (p44 : Option Addr) (l44 c44 : Nat), ∃ w5, (Instr.makeSlice 80 (.int .i64 0) (.int .i64 n15_0)).run Tryz.prog w3 = .ok (.slice p44 l44 c44) w5 ∧
  Alloc #[.slice none 0 0] 80 w5 fun k10 w6 =>
  St ⟨k10, 0, none⟩ (.slice p44 l44 c44) w6 fun w7 =>
  Calls Tryz.prog 56 #[.slice p1 l1 c1] w7 fun e_2 w8 => ∃ v46 : Value, e_2 = .returned v46 ∧
  RangeP Tryz.prog v46 (fun ob l args W Φ => ∃ n47 : Int, ∃ n48 : Int, args = [.int .i64 n47, .int .i64 n48] ∧
  RoundP ob l Φ (fun K_1 X R w9 =>
  ∃ D : World → Prop, D w9.drew ∧
  ∃ (p49 : Option Addr) (l49 c49 : Nat), (∀ w, D w → w.cell? ⟨k10, 0, none⟩ = some (.slice p49 l49 c49)) ∧
  ∃ (p50 : Option Addr) (l50 c50 : Nat), (∀ w, D w → w.cell? ⟨k2, 0, none⟩ = some (.slice p50 l50 c50)) ∧
  ∃ a52 : Addr, p50 = some a52 ∧ (0 : Int) ≤ n47 ∧ n47 < (l50 : Int) ∧
  ∃ n53 : Int, (∀ w, D w → w.cell? (Addr.add a52 (n47.toNat * 1)) = some (.int .u64 n53)) ∧
  (0 : Int) ≤ n48 ∧
  Alloc #[.int .u8 (IntKind.u8.wrap (Int.fdiv n53 (2 ^ (min n48.toNat 64))))] 5 w9.drew fun k57 w10 =>
  D w10 ∧
  ∃ (p58 : Option Addr) (l58 c58 : Nat), ∃ w11, (builtin .append #[80, 80] 80 #[false, false] #[.slice p49 l49 c49, .slice (some ⟨k57, 0, none⟩) 1 1]).run Tryz.prog w10 = .ok (.value (.slice p58 l58 c58)) w11 ∧
  D w11 ∧
  St ⟨k10, 0, none⟩ (.slice p58 l58 c58) w11 fun w12 =>
  K_1 w12) W) []
  (fun d w13 =>
  ∃ (p59 : Option Addr) (l59 c59 : Nat), w13.cell? ⟨k10, 0, none⟩ = some (.slice p59 l59 c59) ∧
  ∃ s60 : ByteArray, ∃ w14, (convert 80 9 (.slice p59 l59 c59)).run Tryz.prog w13 = .ok (.string s60) w14 ∧
  w14.heap[d]? = some (.deferred (some [])) ∧
  R (.tuple #[.string s60, .int .i64 0]) (w14.putObj d (.deferred none)))
  (fun d_1 w15 =>
  w15.heap[d_1]? = some (.deferred (some [])) ∧
  R (.tuple #[.string s4, .int .i64 n5]) (w15.putObj d_1 (.deferred none))) w8)))
theorem pack_Encode_eq (p0 : Option Addr) (l0 c0 : Nat) (p1 : Option Addr) (l1 c1 : Nat) (w : World) (R : Value → World → Prop) : pack_Encode p0 l0 c0 p1 l1 c1 w R = fnP Tryz.prog Tryz.f38 (.s .o (.s .o (.s .o (.s (.s .o (.b (.l [(4, .one .str), (5, .one (.int .i64)), (30, .one (.int .i64))] .o))) (.s .o (.s (.s .o (.b (.rf [(47, .one (.int .i64)), (48, .one (.int .i64))] .o))) .o)))))) [.slice p0 l0 c0, .slice p1 l1 c1] w R := by kernel_rfl
theorem pack_Encode_calls {p0 : Option Addr} {l0 c0 : Nat} {p1 : Option Addr} {l1 c1 : Nat} {w : World} {R : Value → World → Prop} (h : pack_Encode p0 l0 c0 p1 l1 c1 w R) : Calls Tryz.prog 38 #[.slice p0 l0 c0, .slice p1 l1 c1] w fun e w1 => ∃ v, e = .returned v ∧ R v w1 := fnP_calls callable Tryz.func38 (pack_Encode_eq p0 l0 c0 p1 l1 c1 w R ▸ h)

/-- revetment/crc.Seal -/
def crc_Seal (s0 : ByteArray) (n1 : Int) (w : World) (R : Value → World → Prop) : Prop :=
  ((decide (n1 < 4)) = true →
  R (.tuple #[.string (ByteArray.mk #[]), .bool false]) w) ∧
  ((decide (n1 < 4)) = false →
  ((decide (n1 > 4096)) = true →
  R (.tuple #[.string (ByteArray.mk #[]), .bool false]) w) ∧
  ((decide (n1 > 4096)) = false →
  ((decide ((s0.size : Int) > (IntKind.i64.wrap (n1 - 4)))) = true →
  R (.tuple #[.string (ByteArray.mk #[]), .bool false]) w) ∧
  ((decide ((s0.size : Int) > (IntKind.i64.wrap (n1 - 4)))) = false →
  ∃ (p22 : Option Addr) (l22 c22 : Nat), ∃ w1, (Instr.makeSlice 80 (.int .i64 (IntKind.i64.wrap (n1 - 4))) (.int .i64 (IntKind.i64.wrap (n1 - 4)))).run Tryz.prog w = .ok (.slice p22 l22 c22) w1 ∧
  ∃ n25 : Int, ∃ w2, (builtin .copy #[80, 9] 3 #[false, false] #[.slice p22 l22 c22, .string s0]).run Tryz.prog w1 = .ok (.value (.int .i64 n25)) w2 ∧
  ∃ s28 : ByteArray, ∃ w3, (convert 80 9 (.slice p22 l22 c22)).run Tryz.prog w2 = .ok (.string s28) w3 ∧
  Calls Tryz.prog 58 #[.string s28] w3 fun e w4 => ∃ n29 : Int, e = .returned (.int .u32 n29) ∧
  Calls Tryz.prog 57 #[.int .u32 n29] w4 fun e_1 w5 => ∃ (p30 : Option Addr) (l30 c30 : Nat), e_1 = .returned (.slice p30 l30 c30) ∧
  ∃ (p31 : Option Addr) (l31 c31 : Nat), ∃ w6, (builtin .append #[80, 80] 80 #[false, false] #[.slice p22 l22 c22, .slice p30 l30 c30]).run Tryz.prog w5 = .ok (.value (.slice p31 l31 c31)) w6 ∧
  ∃ s32 : ByteArray, ∃ w7, (convert 80 9 (.slice p31 l31 c31)).run Tryz.prog w6 = .ok (.string s32) w7 ∧
  R (.tuple #[.string s32, .bool true]) w7)))
theorem crc_Seal_eq (s0 : ByteArray) (n1 : Int) (w : World) (R : Value → World → Prop) : crc_Seal s0 n1 w R = fnP Tryz.prog Tryz.f39 .o [.string s0, .int .i64 n1] w R := by kernel_rfl
theorem crc_Seal_calls {s0 : ByteArray} {n1 : Int} {w : World} {R : Value → World → Prop} (h : crc_Seal s0 n1 w R) : Calls Tryz.prog 39 #[.string s0, .int .i64 n1] w fun e w1 => ∃ v, e = .returned v ∧ R v w1 := fnP_calls callable Tryz.func39 (crc_Seal_eq s0 n1 w R ▸ h)

/-- revetment/pages.drives$1 -/
def pages_drives_1 (v0 : Value) (k1 : Addr) (w : World) (R : Value → World → Prop) : Prop :=
  ∃ (p5 : Option Addr) (l5 c5 : Nat), w.cell? k1 = some (.slice p5 l5 c5) ∧
  LoopP (fun I => I [.int .i64 0] w) fun K vs w1 => ∃ n7 : Int, vs = [.int .i64 n7] ∧
  ((decide (n7 < (l5 : Int))) = true →
  ∃ a9 : Addr, p5 = some a9 ∧ (0 : Int) ≤ n7 ∧ n7 < (l5 : Int) ∧
  ∃ p10 : Option Addr, w1.cell? (Addr.add a9 (n7.toNat * 1)) = some (.pointer p10) ∧
  ((!(Option.isNone p10)) = true →
  CallF Tryz.prog v0 [.pointer p10] w1 fun e w2 => ∃ b16 : Bool, e = .returned (.bool b16) ∧
  ((!b16) = true →
  R (.tuple #[]) w2) ∧
  ((!b16) = false →
  K [.int .i64 (IntKind.i64.wrap (n7 + 1))] w2)) ∧
  ((!(Option.isNone p10)) = false →
  K [.int .i64 (IntKind.i64.wrap (n7 + 1))] w1)) ∧
  ((decide (n7 < (l5 : Int))) = false →
  R (.tuple #[]) w1)
theorem pages_drives_1_eq (v0 : Value) (k1 : Addr) (w : World) (R : Value → World → Prop) : pages_drives_1 v0 k1 w R = fnP Tryz.prog Tryz.f47 (.s .o (.b (.l [(7, .one (.int .i64))] .o))) [v0, .pointer (some k1)] w R := by kernel_rfl
theorem pages_drives_1_calls {v0 : Value} {k1 : Addr} {w : World} {R : Value → World → Prop} (h : pages_drives_1 v0 k1 w R) : Calls Tryz.prog 47 #[v0, .pointer (some k1)] w fun e w1 => ∃ v, e = .returned v ∧ R v w1 := fnP_calls callable Tryz.func47 (pages_drives_1_eq v0 k1 w R ▸ h)

/-- revetment/crc.Open -/
def crc_Open (s0 : ByteArray) (w : World) (R : Value → World → Prop) : Prop :=
  ∃ D : World → Prop, D w.drew ∧
  ((decide ((IntKind.i64.wrap ((s0.size : Int) - 4)) < 0)) = true →
  R (.tuple #[.string (ByteArray.mk #[]), .bool false]) w.drew) ∧
  ((decide ((IntKind.i64.wrap ((s0.size : Int) - 4)) < 0)) = false →
  ∃ s13 : ByteArray, (∀ w, D w → (Instr.sliceAt 9 (.string s0) none (some (.int .i64 (IntKind.i64.wrap ((s0.size : Int) - 4)))) none).run Tryz.prog w = .ok (.string s13) w) ∧
  Calls Tryz.prog 58 #[.string s13] w.drew fun e w1 => ∃ n14 : Int, e = .returned (.int .u32 n14) ∧
  D w1 ∧
  Calls Tryz.prog 57 #[.int .u32 n14] w1 fun e_1 w2 => ∃ (p15 : Option Addr) (l15 c15 : Nat), e_1 = .returned (.slice p15 l15 c15) ∧
  D w2 ∧
  ∃ s16 : ByteArray, (∀ x0, x0 = w2 → (convert 80 9 (.slice p15 l15 c15)).run Tryz.prog x0 = .ok (.string s16) x0) ∧
  ∃ s19 : ByteArray, (∀ w, D w → (Instr.sliceAt 9 (.string s0) (some (.int .i64 (IntKind.i64.wrap ((s0.size : Int) - 4)))) none none).run Tryz.prog w = .ok (.string s19) w) ∧
  ((!(s16.toList == s19.toList)) = true →
  R (.tuple #[.string (ByteArray.mk #[]), .bool false]) w2) ∧
  ((!(s16.toList == s19.toList)) = false →
  ∃ s24 : ByteArray, ∃ w3, (Instr.sliceAt 9 (.string s0) none (some (.int .i64 (IntKind.i64.wrap ((s0.size : Int) - 4)))) none).run Tryz.prog w2 = .ok (.string s24) w3 ∧
  R (.tuple #[.string s24, .bool true]) w3))
theorem crc_Open_eq (s0 : ByteArray) (w : World) (R : Value → World → Prop) : crc_Open s0 w R = fnP Tryz.prog Tryz.f48 .o [.string s0] w R := by kernel_rfl
theorem crc_Open_calls {s0 : ByteArray} {w : World} {R : Value → World → Prop} (h : crc_Open s0 w R) : Calls Tryz.prog 48 #[.string s0] w fun e w1 => ∃ v, e = .returned v ∧ R v w1 := fnP_calls callable Tryz.func48 (crc_Open_eq s0 w R ▸ h)

/-- strings.CutPrefix -/
def strings_CutPrefix (s0 : ByteArray) (s1 : ByteArray) (w : World) (R : Value → World → Prop) : Prop :=
  Calls Tryz.prog 65 #[.string s0, .string s1] w fun e w1 => ∃ s8_0 : ByteArray, ∃ b8_1 : Bool, e = .returned (.tuple #[.string s8_0, .bool b8_1]) ∧
  R (.tuple #[.string s8_0, .bool b8_1]) w1
theorem strings_CutPrefix_eq (s0 : ByteArray) (s1 : ByteArray) (w : World) (R : Value → World → Prop) : strings_CutPrefix s0 s1 w R = fnP Tryz.prog Tryz.f49 .o [.string s0, .string s1] w R := by kernel_rfl
theorem strings_CutPrefix_calls {s0 : ByteArray} {s1 : ByteArray} {w : World} {R : Value → World → Prop} (h : strings_CutPrefix s0 s1 w R) : Calls Tryz.prog 49 #[.string s0, .string s1] w fun e w1 => ∃ v, e = .returned v ∧ R v w1 := fnP_calls callable Tryz.func49 (strings_CutPrefix_eq s0 s1 w R ▸ h)

/-- strings.Trim -/
def strings_Trim (s0 : ByteArray) (s1 : ByteArray) (w : World) (R : Value → World → Prop) : Prop :=
  ((s0.toList == (ByteArray.mk #[]).toList) = true →
  R (.string s0) w) ∧
  ((s0.toList == (ByteArray.mk #[]).toList) = false →
  ((s1.toList == (ByteArray.mk #[]).toList) = true →
  R (.string s0) w) ∧
  ((s1.toList == (ByteArray.mk #[]).toList) = false →
  Join (fun vs w1 => vs = [] ∧
  Calls Tryz.prog 68 #[.string s1] w1 fun e w2 => ∃ z31_0 : Array Value, z31_0.size = 256 ∧ ∃ b31_1 : Bool, e = .returned (.tuple #[.agg z31_0, .bool b31_1]) ∧
  Alloc ((zc Tryz.prog 109).getD #[]) 109 w2 fun k5 w3 =>
  ∃ w4, (Instr.storeAt 109 (.pointer (some ⟨k5, 0, none⟩)) (.agg z31_0)).run Tryz.prog w3 = .ok () w4 ∧
  (b31_1 = true →
  Calls Tryz.prog 70 #[.string s0, .pointer (some ⟨k5, 0, none⟩)] w4 fun e_1 w5 => ∃ s36 : ByteArray, e_1 = .returned (.string s36) ∧
  Calls Tryz.prog 69 #[.string s36, .pointer (some ⟨k5, 0, none⟩)] w5 fun e_2 w6 => ∃ s37 : ByteArray, e_2 = .returned (.string s37) ∧
  R (.string s37) w6) ∧
  (b31_1 = false →
  Calls Tryz.prog 72 #[.string s0, .string s1] w4 fun e_3 w7 => ∃ s40 : ByteArray, e_3 = .returned (.string s40) ∧
  Calls Tryz.prog 71 #[.string s40, .string s1] w7 fun e_4 w8 => ∃ s42 : ByteArray, e_4 = .returned (.string s42) ∧
  R (.string s42) w8)) fun J =>
  (((s1.size : Int) == 1) = true →
  ∃ n19 : Int, ∃ w9, (Instr.index 9 (.string s1) (.int .i64 0)).run Tryz.prog w = .ok (.int .u8 n19) w9 ∧
  ((decide (n19 < 128)) = true →
  ∃ D : World → Prop, D w9.drew ∧
  ∃ n24 : Int, (∀ w, D w → (Instr.index 9 (.string s1) (.int .i64 0)).run Tryz.prog w = .ok (.int .u8 n24) w) ∧
  Calls Tryz.prog 67 #[.string s0, .int .u8 n24] w9.drew fun e_5 w10 => ∃ s25 : ByteArray, e_5 = .returned (.string s25) ∧
  D w10 ∧
  ∃ n27 : Int, (∀ w, D w → (Instr.index 9 (.string s1) (.int .i64 0)).run Tryz.prog w = .ok (.int .u8 n27) w) ∧
  Calls Tryz.prog 66 #[.string s25, .int .u8 n27] w10 fun e_6 w11 => ∃ s28 : ByteArray, e_6 = .returned (.string s28) ∧
  D w11 ∧
  R (.string s28) w11) ∧
  ((decide (n19 < 128)) = false →
  J [] w9)) ∧
  (((s1.size : Int) == 1) = false →
  J [] w)))
theorem strings_Trim_eq (s0 : ByteArray) (s1 : ByteArray) (w : World) (R : Value → World → Prop) : strings_Trim s0 s1 w R = fnP Tryz.prog Tryz.f50 (.s .o (.s .o (.j [] .o .o))) [.string s0, .string s1] w R := by kernel_rfl
theorem strings_Trim_calls {s0 : ByteArray} {s1 : ByteArray} {w : World} {R : Value → World → Prop} (h : strings_Trim s0 s1 w R) : Calls Tryz.prog 50 #[.string s0, .string s1] w fun e w1 => ∃ v, e = .returned v ∧ R v w1 := fnP_calls callable Tryz.func50 (strings_Trim_eq s0 s1 w R ▸ h)

/-- revetment/pack.Decode -/
def pack_Decode (s0 : ByteArray) (p1 : Option Addr) (l1 c1 : Nat) (w : World) (R : Value → World → Prop) : Prop :=
  Alloc #[.string s0] 9 w fun k2 w1 =>
  Calls Tryz.prog 54 #[.slice p1 l1 c1] w1 fun e w2 => ∃ n13_0 : Int, ∃ n13_1 : Int, e = .returned (.tuple #[.int .i64 n13_0, .int .i64 n13_1]) ∧
  ((n13_1 != 0) = true →
  R (.tuple #[.slice none 0 0, .int .i64 n13_1]) w2) ∧
  ((n13_1 != 0) = false →
  ∃ s21 : ByteArray, w2.cell? ⟨k2, 0, none⟩ = some (.string s21) ∧
  (((s21.size : Int) != n13_0) = true →
  R (.tuple #[.slice none 0 0, .int .i64 31]) w2) ∧
  (((s21.size : Int) != n13_0) = false →
  ∃ (p27 : Option Addr) (l27 c27 : Nat), ∃ w3, (Instr.makeSlice 82 (.int .i64 (l1 : Int)) (.int .i64 (l1 : Int))).run Tryz.prog w2 = .ok (.slice p27 l27 c27) w3 ∧
  Alloc #[.slice none 0 0] 82 w3 fun k8 w4 =>
  St ⟨k8, 0, none⟩ (.slice p27 l27 c27) w4 fun w5 =>
  Calls Tryz.prog 56 #[.slice p1 l1 c1] w5 fun e_1 w6 => ∃ v29 : Value, e_1 = .returned v29 ∧
  RangeP Tryz.prog v29 (fun ob l args W Φ => ∃ n30 : Int, ∃ n31 : Int, args = [.int .i64 n30, .int .i64 n31] ∧
  RoundP ob l Φ (fun K X R w7 =>
  ∃ D : World → Prop, D w7.drew ∧
  ∃ (p32 : Option Addr) (l32 c32 : Nat), (∀ w, D w → w.cell? ⟨k8, 0, none⟩ = some (.slice p32 l32 c32)) ∧
  ∃ a34 : Addr, p32 = some a34 ∧ (0 : Int) ≤ n30 ∧ n30 < (l32 : Int) ∧
  ∃ n35 : Int, (∀ w, D w → w.cell? (Addr.add a34 (n30.toNat * 1)) = some (.int .u64 n35)) ∧
  ∃ s36 : ByteArray, (∀ w, D w → w.cell? ⟨k2, 0, none⟩ = some (.string s36)) ∧
  ∃ n37 : Int, (∀ w, D w → (Instr.index 9 (.string s36) (.int .i64 0)).run Tryz.prog w = .ok (.int .u8 n37) w) ∧
  (0 : Int) ≤ n31 ∧
  ∃ a42 : Addr, p32 = some a42 ∧ (0 : Int) ≤ n30 ∧ n30 < (l32 : Int) ∧
  St (Addr.add a42 (n30.toNat * 1)) (.int .u64 (bits2 .or .u64 n35 (IntKind.u64.wrap ((IntKind.u64.wrap n37) * 2 ^ (min n31.toNat 64))))) w7.drew fun w8 =>
  ∃ s43 : ByteArray, w8.cell? ⟨k2, 0, none⟩ = some (.string s43) ∧
  ∃ s44 : ByteArray, ∃ w9, (Instr.sliceAt 9 (.string s43) (some (.int .i64 1)) none none).run Tryz.prog w8 = .ok (.string s44) w9 ∧
  St ⟨k2, 0, none⟩ (.string s44) w9 fun w10 =>
  K w10) W) []
  (fun d w11 =>
  ∃ (p45 : Option Addr) (l45 c45 : Nat), w11.cell? ⟨k8, 0, none⟩ = some (.slice p45 l45 c45) ∧
  w11.heap[d]? = some (.deferred (some [])) ∧
  R (.tuple #[.slice p45 l45 c45, .int .i64 0]) (w11.putObj d (.deferred none)))
  (fun d_1 w12 =>
  w12.heap[d_1]? = some (.deferred (some [])) ∧
  R (.tuple #[.slice none 0 0, .int .i64 0]) (w12.putObj d_1 (.deferred none))) w6))
theorem pack_Decode_eq (s0 : ByteArray) (p1 : Option Addr) (l1 c1 : Nat) (w : World) (R : Value → World → Prop) : pack_Decode s0 p1 l1 c1 w R = fnP Tryz.prog Tryz.f51 (.s .o (.s .o (.s .o (.s .o (.s (.s .o (.b (.rf [(30, .one (.int .i64)), (31, .one (.int .i64))] .o))) .o))))) [.string s0, .slice p1 l1 c1] w R := by kernel_rfl
theorem pack_Decode_calls {s0 : ByteArray} {p1 : Option Addr} {l1 c1 : Nat} {w : World} {R : Value → World → Prop} (h : pack_Decode s0 p1 l1 c1 w R) : Calls Tryz.prog 51 #[.string s0, .slice p1 l1 c1] w fun e w1 => ∃ v, e = .returned v ∧ R v w1 := fnP_calls callable Tryz.func51 (pack_Decode_eq s0 p1 l1 c1 w R ▸ h)

/-- revetment/pack.Size -/
def pack_Size (p0 : Option Addr) (l0 c0 : Nat) (w : World) (R : Value → World → Prop) : Prop :=
  LoopP (fun I => I [.int .i64 0, .int .i64 0] w) fun K vs w1 => ∃ n4 : Int, ∃ n9 : Int, vs = [.int .i64 n4, .int .i64 n9] ∧
  ((decide (n9 < (l0 : Int))) = true →
  ∃ a11 : Addr, p0 = some a11 ∧ (0 : Int) ≤ n9 ∧ n9 < (l0 : Int) ∧
  ∃ n12 : Int, w1.cell? (Addr.add a11 (n9.toNat * 1)) = some (.int .i64 n12) ∧
  ((decide (n12 < 1)) = true →
  R (.tuple #[.int .i64 0, .int .i64 1]) w1) ∧
  ((decide (n12 < 1)) = false →
  ((decide (n12 > 8)) = true →
  R (.tuple #[.int .i64 0, .int .i64 1]) w1) ∧
  ((decide (n12 > 8)) = false →
  K [.int .i64 (IntKind.i64.wrap (n4 + n12)), .int .i64 (IntKind.i64.wrap (n9 + 1))] w1))) ∧
  ((decide (n9 < (l0 : Int))) = false →
  ((decide ((l0 : Int) > 64)) = true →
  R (.tuple #[.int .i64 0, .int .i64 1]) w1) ∧
  ((decide ((l0 : Int) > 64)) = false →
  R (.tuple #[.int .i64 n4, .int .i64 0]) w1))
theorem pack_Size_eq (p0 : Option Addr) (l0 c0 : Nat) (w : World) (R : Value → World → Prop) : pack_Size p0 l0 c0 w R = fnP Tryz.prog Tryz.f54 (.s .o (.s .o (.s (.s .o (.b (.l [(4, .one (.int .i64)), (9, .one (.int .i64))] .o))) .o))) [.slice p0 l0 c0] w R := by kernel_rfl
theorem pack_Size_calls {p0 : Option Addr} {l0 c0 : Nat} {w : World} {R : Value → World → Prop} (h : pack_Size p0 l0 c0 w R) : Calls Tryz.prog 54 #[.slice p0 l0 c0] w fun e w1 => ∃ v, e = .returned v ∧ R v w1 := fnP_calls callable Tryz.func54 (pack_Size_eq p0 l0 c0 w R ▸ h)

/-- revetment/pack.Fits -/
def pack_Fits (n0 : Int) (n1 : Int) (w : World) (R : Value → World → Prop) : Prop :=
  ((n1 == 8) = true →
  R (.bool true) w) ∧
  ((n1 == 8) = false →
  ((decide (n1 > 0)) = true →
  ((decide (n1 < 8)) = true →
  (0 : Int) ≤ (IntKind.i64.wrap (8 * n1)) ∧
  R (.bool ((Int.fdiv n0 (2 ^ (min (IntKind.i64.wrap (8 * n1)).toNat 64))) == 0)) w) ∧
  ((decide (n1 < 8)) = false →
  R (.bool false) w)) ∧
  ((decide (n1 > 0)) = false →
  R (.bool false) w))
theorem pack_Fits_eq (n0 : Int) (n1 : Int) (w : World) (R : Value → World → Prop) : pack_Fits n0 n1 w R = fnP Tryz.prog Tryz.f55 .o [.int .u64 n0, .int .i64 n1] w R := by kernel_rfl
theorem pack_Fits_calls {n0 : Int} {n1 : Int} {w : World} {R : Value → World → Prop} (h : pack_Fits n0 n1 w R) : Calls Tryz.prog 55 #[.int .u64 n0, .int .i64 n1] w fun e w1 => ∃ v, e = .returned v ∧ R v w1 := fnP_calls callable Tryz.func55 (pack_Fits_eq n0 n1 w R ▸ h)

/-- revetment/pack.places -/
def pack_places (p0 : Option Addr) (l0 c0 : Nat) (w : World) (R : Value → World → Prop) : Prop :=
  Alloc #[.slice p0 l0 c0] 83 w fun k1 w1 =>
  R (.func (.func 73) #[] #[.pointer (some ⟨k1, 0, none⟩)]) w1
theorem pack_places_eq (p0 : Option Addr) (l0 c0 : Nat) (w : World) (R : Value → World → Prop) : pack_places p0 l0 c0 w R = fnP Tryz.prog Tryz.f56 .o [.slice p0 l0 c0] w R := by kernel_rfl
theorem pack_places_calls {p0 : Option Addr} {l0 c0 : Nat} {w : World} {R : Value → World → Prop} (h : pack_places p0 l0 c0 w R) : Calls Tryz.prog 56 #[.slice p0 l0 c0] w fun e w1 => ∃ v, e = .returned v ∧ R v w1 := fnP_calls callable Tryz.func56 (pack_places_eq p0 l0 c0 w R ▸ h)

/-- revetment/crc.bytes -/
def crc_bytes (n0 : Int) (w : World) (R : Value → World → Prop) : Prop :=
  Alloc #[.int .u8 (IntKind.u8.wrap n0), .int .u8 (IntKind.u8.wrap (Int.fdiv n0 (2 ^ 8))), .int .u8 (IntKind.u8.wrap (Int.fdiv n0 (2 ^ 16))), .int .u8 (IntKind.u8.wrap (Int.fdiv n0 (2 ^ 24)))] 5 w fun k14 w1 =>
  R (.slice (some ⟨k14, 0, none⟩) 4 4) w1
theorem crc_bytes_eq (n0 : Int) (w : World) (R : Value → World → Prop) : crc_bytes n0 w R = fnP Tryz.prog Tryz.f57 .o [.int .u32 n0] w R := by kernel_rfl
theorem crc_bytes_calls {n0 : Int} {w : World} {R : Value → World → Prop} (h : crc_bytes n0 w R) : Calls Tryz.prog 57 #[.int .u32 n0] w fun e w1 => ∃ v, e = .returned v ∧ R v w1 := fnP_calls callable Tryz.func57 (crc_bytes_eq n0 w R ▸ h)

/-- revetment/crc.Sum -/
def crc_Sum (s0 : ByteArray) (w : World) (R : Value → World → Prop) : Prop :=
  Calls Tryz.prog 74 #[.int .u32 0, .string s0] w fun e w1 => ∃ n4 : Int, e = .returned (.int .u32 n4) ∧
  R (.int .u32 n4) w1
theorem crc_Sum_eq (s0 : ByteArray) (w : World) (R : Value → World → Prop) : crc_Sum s0 w R = fnP Tryz.prog Tryz.f58 .o [.string s0] w R := by kernel_rfl
theorem crc_Sum_calls {s0 : ByteArray} {w : World} {R : Value → World → Prop} (h : crc_Sum s0 w R) : Calls Tryz.prog 58 #[.string s0] w fun e w1 => ∃ v, e = .returned v ∧ R v w1 := fnP_calls callable Tryz.func58 (crc_Sum_eq s0 w R ▸ h)

/-- internal/stringslite.CutPrefix -/
def internal_stringslite_CutPrefix (s0 : ByteArray) (s1 : ByteArray) (w : World) (R : Value → World → Prop) : Prop :=
  Calls Tryz.prog 79 #[.string s0, .string s1] w fun e w1 => ∃ b8 : Bool, e = .returned (.bool b8) ∧
  ((!b8) = true →
  R (.tuple #[.string s0, .bool false]) w1) ∧
  ((!b8) = false →
  ∃ s14 : ByteArray, ∃ w2, (Instr.sliceAt 9 (.string s0) (some (.int .i64 (s1.size : Int))) none none).run Tryz.prog w1 = .ok (.string s14) w2 ∧
  R (.tuple #[.string s14, .bool true]) w2)
theorem internal_stringslite_CutPrefix_eq (s0 : ByteArray) (s1 : ByteArray) (w : World) (R : Value → World → Prop) : internal_stringslite_CutPrefix s0 s1 w R = fnP Tryz.prog Tryz.f65 .o [.string s0, .string s1] w R := by kernel_rfl
theorem internal_stringslite_CutPrefix_calls {s0 : ByteArray} {s1 : ByteArray} {w : World} {R : Value → World → Prop} (h : internal_stringslite_CutPrefix s0 s1 w R) : Calls Tryz.prog 65 #[.string s0, .string s1] w fun e w1 => ∃ v, e = .returned v ∧ R v w1 := fnP_calls callable Tryz.func65 (internal_stringslite_CutPrefix_eq s0 s1 w R ▸ h)

/-- strings.trimLeftByte -/
def strings_trimLeftByte (s0 : ByteArray) (n1 : Int) (w : World) (R : Value → World → Prop) : Prop :=
  LoopP (fun I => I [.string s0] w) fun K vs w1 => ∃ s0_1 : ByteArray, vs = [.string s0_1] ∧
  ((decide ((s0_1.size : Int) > 0)) = true →
  ∃ n10 : Int, ∃ w2, (Instr.index 9 (.string s0_1) (.int .i64 0)).run Tryz.prog w1 = .ok (.int .u8 n10) w2 ∧
  ((n10 == n1) = true →
  ∃ s15 : ByteArray, ∃ w3, (Instr.sliceAt 9 (.string s0_1) (some (.int .i64 1)) none none).run Tryz.prog w2 = .ok (.string s15) w3 ∧
  K [.string s15] w3) ∧
  ((n10 == n1) = false →
  R (.string s0_1) w2)) ∧
  ((decide ((s0_1.size : Int) > 0)) = false →
  R (.string s0_1) w1)
theorem strings_trimLeftByte_eq (s0 : ByteArray) (n1 : Int) (w : World) (R : Value → World → Prop) : strings_trimLeftByte s0 n1 w R = fnP Tryz.prog Tryz.f66 (.s .o (.s (.b (.l [(0, .one .str)] .o)) .o)) [.string s0, .int .u8 n1] w R := by kernel_rfl
theorem strings_trimLeftByte_calls {s0 : ByteArray} {n1 : Int} {w : World} {R : Value → World → Prop} (h : strings_trimLeftByte s0 n1 w R) : Calls Tryz.prog 66 #[.string s0, .int .u8 n1] w fun e w1 => ∃ v, e = .returned v ∧ R v w1 := fnP_calls callable Tryz.func66 (strings_trimLeftByte_eq s0 n1 w R ▸ h)

/-- strings.trimRightByte -/
def strings_trimRightByte (s0 : ByteArray) (n1 : Int) (w : World) (R : Value → World → Prop) : Prop :=
  LoopP (fun I => I [.string s0] w) fun K vs w1 => ∃ s0_1 : ByteArray, vs = [.string s0_1] ∧
  ((decide ((s0_1.size : Int) > 0)) = true →
  ∃ n13 : Int, ∃ w2, (Instr.index 9 (.string s0_1) (.int .i64 (IntKind.i64.wrap ((s0_1.size : Int) - 1)))).run Tryz.prog w1 = .ok (.int .u8 n13) w2 ∧
  ((n13 == n1) = true →
  ∃ s21 : ByteArray, ∃ w3, (Instr.sliceAt 9 (.string s0_1) none (some (.int .i64 (IntKind.i64.wrap ((s0_1.size : Int) - 1)))) none).run Tryz.prog w2 = .ok (.string s21) w3 ∧
  K [.string s21] w3) ∧
  ((n13 == n1) = false →
  R (.string s0_1) w2)) ∧
  ((decide ((s0_1.size : Int) > 0)) = false →
  R (.string s0_1) w1)
theorem strings_trimRightByte_eq (s0 : ByteArray) (n1 : Int) (w : World) (R : Value → World → Prop) : strings_trimRightByte s0 n1 w R = fnP Tryz.prog Tryz.f67 (.s .o (.s (.b (.l [(0, .one .str)] .o)) .o)) [.string s0, .int .u8 n1] w R := by kernel_rfl
theorem strings_trimRightByte_calls {s0 : ByteArray} {n1 : Int} {w : World} {R : Value → World → Prop} (h : strings_trimRightByte s0 n1 w R) : Calls Tryz.prog 67 #[.string s0, .int .u8 n1] w fun e w1 => ∃ v, e = .returned v ∧ R v w1 := fnP_calls callable Tryz.func67 (strings_trimRightByte_eq s0 n1 w R ▸ h)

/-- revetment/pack.places$1 -/
def pack_places_1 (v0 : Value) (k1 : Addr) (w : World) (R : Value → World → Prop) : Prop :=
  ∃ (p6 : Option Addr) (l6 c6 : Nat), w.cell? k1 = some (.slice p6 l6 c6) ∧
  LoopP (fun I => I [.int .i64 0] w) fun K vs w1 => ∃ n8 : Int, vs = [.int .i64 n8] ∧
  ((decide (n8 < (l6 : Int))) = true →
  ∃ a11 : Addr, p6 = some a11 ∧ (0 : Int) ≤ n8 ∧ n8 < (l6 : Int) ∧
  ∃ n12 : Int, w1.cell? (Addr.add a11 (n8.toNat * 1)) = some (.int .i64 n12) ∧
  LoopP (fun I_1 => I_1 [.int .i64 0] w1) fun K_1 vs_1 w2 => ∃ n14 : Int, vs_1 = [.int .i64 n14] ∧
  ((decide (n14 < n12)) = true →
  CallF Tryz.prog v0 [.int .i64 n8, .int .i64 (IntKind.i64.wrap (8 * n14))] w2 fun e w3 => ∃ b21 : Bool, e = .returned (.bool b21) ∧
  ((!b21) = true →
  R (.tuple #[]) w3) ∧
  ((!b21) = false →
  K_1 [.int .i64 (IntKind.i64.wrap (n14 + 1))] w3)) ∧
  ((decide (n14 < n12)) = false →
  K [.int .i64 (IntKind.i64.wrap (n8 + 1))] w2)) ∧
  ((decide (n8 < (l6 : Int))) = false →
  R (.tuple #[]) w1)
theorem pack_places_1_eq (v0 : Value) (k1 : Addr) (w : World) (R : Value → World → Prop) : pack_places_1 v0 k1 w R = fnP Tryz.prog Tryz.f73 (.s .o (.b (.l [(8, .one (.int .i64))] (.s .o (.s .o (.s (.b (.s .o (.s .o (.b (.l [(14, .one (.int .i64))] .o))))) .o)))))) [v0, .pointer (some k1)] w R := by kernel_rfl
theorem pack_places_1_calls {v0 : Value} {k1 : Addr} {w : World} {R : Value → World → Prop} (h : pack_places_1 v0 k1 w R) : Calls Tryz.prog 73 #[v0, .pointer (some k1)] w fun e w1 => ∃ v, e = .returned v ∧ R v w1 := fnP_calls callable Tryz.func73 (pack_places_1_eq v0 k1 w R ▸ h)

/-- revetment/crc.More -/
def crc_More (n0 : Int) (s1 : ByteArray) (w : World) (R : Value → World → Prop) : Prop :=
  Calls Tryz.prog 84 #[] w fun e w1 => ∃ z9 : Array Value, z9.size = 16 ∧ e = .returned (.agg z9) ∧
  Alloc #[.int .u32 0, .int .u32 0, .int .u32 0, .int .u32 0, .int .u32 0, .int .u32 0, .int .u32 0, .int .u32 0, .int .u32 0, .int .u32 0, .int .u32 0, .int .u32 0, .int .u32 0, .int .u32 0, .int .u32 0, .int .u32 0] 124 w1 fun k5 w2 =>
  ∃ w3, (Instr.storeAt 124 (.pointer (some ⟨k5, 0, none⟩)) (.agg z9)).run Tryz.prog w2 = .ok () w3 ∧
  Alloc #[.int .u32 0] 100 w3 fun k6 w4 =>
  St ⟨k6, 0, none⟩ (.int .u32 (bits2 .xor .u32 IntKind.u32.max n0)) w4 fun w5 =>
  LoopP (fun I => I [.int .i64 0] w5) fun K vs w6 => ∃ n15 : Int, vs = [.int .i64 n15] ∧
  ((decide (n15 < (s1.size : Int))) = true →
  ∃ D : World → Prop, D w6.drew ∧
  ∃ n18 : Int, (∀ w, D w → w.cell? ⟨k6, 0, none⟩ = some (.int .u32 n18)) ∧
  ∃ n21 : Int, (∀ w, D w → (Instr.index 9 (.string s1) (.int .i64 n15)).run Tryz.prog w = .ok (.int .u8 n21) w) ∧
  St ⟨k6, 0, none⟩ (.int .u32 (bits2 .xor .u32 n18 (IntKind.u32.wrap n21))) w6.drew fun w7 =>
  Calls Tryz.prog 85 #[.pointer (some ⟨k6, 0, none⟩), .pointer (some ⟨k5, 0, none⟩)] w7 fun e_1 w8 => e_1 = .returned (.tuple #[]) ∧
  Calls Tryz.prog 85 #[.pointer (some ⟨k6, 0, none⟩), .pointer (some ⟨k5, 0, none⟩)] w8 fun e_2 w9 => e_2 = .returned (.tuple #[]) ∧
  K [.int .i64 (IntKind.i64.wrap (n15 + 1))] w9) ∧
  ((decide (n15 < (s1.size : Int))) = false →
  ∃ n29 : Int, w6.cell? ⟨k6, 0, none⟩ = some (.int .u32 n29) ∧
  R (.int .u32 (bits2 .xor .u32 IntKind.u32.max n29)) w6)
theorem crc_More_eq (n0 : Int) (s1 : ByteArray) (w : World) (R : Value → World → Prop) : crc_More n0 s1 w R = fnP Tryz.prog Tryz.f74 (.s .o (.s .o (.s .o (.s .o (.s (.s .o (.b (.l [(15, .one (.int .i64))] .o))) .o))))) [.int .u32 n0, .string s1] w R := by kernel_rfl
theorem crc_More_calls {n0 : Int} {s1 : ByteArray} {w : World} {R : Value → World → Prop} (h : crc_More n0 s1 w R) : Calls Tryz.prog 74 #[.int .u32 n0, .string s1] w fun e w1 => ∃ v, e = .returned v ∧ R v w1 := fnP_calls callable Tryz.func74 (crc_More_eq n0 s1 w R ▸ h)

/-- internal/stringslite.HasPrefix -/
def internal_stringslite_HasPrefix (s0 : ByteArray) (s1 : ByteArray) (w : World) (R : Value → World → Prop) : Prop :=
  ((decide ((s0.size : Int) ≥ (s1.size : Int))) = true →
  ∃ s14 : ByteArray, ∃ w1, (Instr.sliceAt 9 (.string s0) none (some (.int .i64 (s1.size : Int))) none).run Tryz.prog w = .ok (.string s14) w1 ∧
  R (.bool (s14.toList == s1.toList)) w1) ∧
  ((decide ((s0.size : Int) ≥ (s1.size : Int))) = false →
  R (.bool false) w)
theorem internal_stringslite_HasPrefix_eq (s0 : ByteArray) (s1 : ByteArray) (w : World) (R : Value → World → Prop) : internal_stringslite_HasPrefix s0 s1 w R = fnP Tryz.prog Tryz.f79 .o [.string s0, .string s1] w R := by kernel_rfl
theorem internal_stringslite_HasPrefix_calls {s0 : ByteArray} {s1 : ByteArray} {w : World} {R : Value → World → Prop} (h : internal_stringslite_HasPrefix s0 s1 w R) : Calls Tryz.prog 79 #[.string s0, .string s1] w fun e w1 => ∃ v, e = .returned v ∧ R v w1 := fnP_calls callable Tryz.func79 (internal_stringslite_HasPrefix_eq s0 s1 w R ▸ h)

/-- revetment/crc.table -/
def crc_table (w : World) (R : Value → World → Prop) : Prop :=
  Alloc #[.int .u32 0, .int .u32 0, .int .u32 0, .int .u32 0, .int .u32 0, .int .u32 0, .int .u32 0, .int .u32 0, .int .u32 0, .int .u32 0, .int .u32 0, .int .u32 0, .int .u32 0, .int .u32 0, .int .u32 0, .int .u32 0] 124 w fun k0 w1 =>
  Alloc #[.int .u32 0, .int .u32 0, .int .u32 0, .int .u32 0, .int .u32 0, .int .u32 0, .int .u32 0, .int .u32 0, .int .u32 0, .int .u32 0, .int .u32 0, .int .u32 0, .int .u32 0, .int .u32 0, .int .u32 0, .int .u32 0] 124 w1 fun k1 w2 =>
  LoopP (fun I => I [.int .i64 0] w2) fun K vs w3 => ∃ n4 : Int, vs = [.int .i64 n4] ∧
  ((decide (n4 < 16)) = true →
  LoopP (fun I_1 => I_1 [.int .u32 (IntKind.u32.wrap n4), .int .i64 0] w3) fun K_1 vs_1 w4 => ∃ n3 : Int, ∃ n9 : Int, vs_1 = [.int .u32 n3, .int .i64 n9] ∧
  ((decide (n9 < 4)) = true →
  K_1 [.int .u32 (bits2 .xor .u32 (Int.fdiv n3 (2 ^ 1)) (IntKind.u32.wrap (2197175160 * (bits2 .and .u32 n3 1)))), .int .i64 (IntKind.i64.wrap (n9 + 1))] w4) ∧
  ((decide (n9 < 4)) = false →
  (0 : Int) ≤ n4 ∧ n4 < (16 : Int) ∧
  St (Addr.add ⟨k1, 0, none⟩ (n4.toNat * 1)) (.int .u32 n3) w4 fun w5 =>
  K [.int .i64 (IntKind.i64.wrap (n4 + 1))] w5)) ∧
  ((decide (n4 < 16)) = false →
  ∃ z22 : Array Value, z22.size = 16 ∧ bigAt w3 ⟨k1, 0, none⟩ z22 ∧
  ∃ w6, (Instr.storeAt 124 (.pointer (some ⟨k0, 0, none⟩)) (.agg z22)).run Tryz.prog w3 = .ok () w6 ∧
  ∃ zr0 : Array Value, zr0.size = 16 ∧ bigAt w6 ⟨k0, 0, none⟩ zr0 ∧
  R (.agg zr0) w6)
theorem crc_table_eq (w : World) (R : Value → World → Prop) : crc_table w R = fnP Tryz.prog Tryz.f84 (.s .o (.s .o (.s (.s .o (.b (.l [(4, .one (.int .i64))] (.s .o (.s .o (.s (.b (.s .o (.s .o (.s (.s .o (.b (.l [(3, .one (.int .u32)), (9, .one (.int .i64))] .o))) .o)))) .o)))))) .o))) [] w R := by kernel_rfl
theorem crc_table_calls {w : World} {R : Value → World → Prop} (h : crc_table w R) : Calls Tryz.prog 84 #[] w fun e w1 => ∃ v, e = .returned v ∧ R v w1 := fnP_calls callable Tryz.func84 (crc_table_eq w R ▸ h)

/-- revetment/crc.More$1 -/
def crc_More_1 (k0 : Addr) (k1 : Addr) (w : World) (R : Value → World → Prop) : Prop :=
  ∃ D : World → Prop, D w.drew ∧
  ∃ n2 : Int, (∀ w, D w → w.cell? k0 = some (.int .u32 n2)) ∧
  ∃ n4 : Int, (∀ w, D w → w.cell? k0 = some (.int .u32 n4)) ∧
  (0 : Int) ≤ (bits2 .and .u32 n4 15) ∧ (bits2 .and .u32 n4 15) < (16 : Int) ∧
  ∃ n7 : Int, (∀ w, D w → w.cell? (Addr.add k1 ((bits2 .and .u32 n4 15).toNat * 1)) = some (.int .u32 n7)) ∧
  St k0 (.int .u32 (bits2 .xor .u32 (Int.fdiv n2 (2 ^ 4)) n7)) w.drew fun w1 =>
  R (.tuple #[]) w1
theorem crc_More_1_eq (k0 : Addr) (k1 : Addr) (w : World) (R : Value → World → Prop) : crc_More_1 k0 k1 w R = fnP Tryz.prog Tryz.f85 .o [.pointer (some k0), .pointer (some k1)] w R := by kernel_rfl
theorem crc_More_1_calls {k0 : Addr} {k1 : Addr} {w : World} {R : Value → World → Prop} (h : crc_More_1 k0 k1 w R) : Calls Tryz.prog 85 #[.pointer (some k0), .pointer (some k1)] w fun e w1 => ∃ v, e = .returned v ∧ R v w1 := fnP_calls callable Tryz.func85 (crc_More_1_eq k0 k1 w R ▸ h)

/-- cmp.Less[int] -/
def cmp_Less_int (n0 : Int) (n1 : Int) (w : World) (R : Value → World → Prop) : Prop :=
  Calls Tryz.prog 112 #[.int .i64 n0] w fun e w1 => ∃ b6 : Bool, e = .returned (.bool b6) ∧
  (b6 = true →
  Calls Tryz.prog 112 #[.int .i64 n1] w1 fun e_1 w2 => ∃ b9 : Bool, e_1 = .returned (.bool b9) ∧
  ((!b9) = true →
  R (.bool true) w2) ∧
  ((!b9) = false →
  R (.bool (decide (n0 < n1))) w2)) ∧
  (b6 = false →
  R (.bool (decide (n0 < n1))) w1)
theorem cmp_Less_int_eq (n0 : Int) (n1 : Int) (w : World) (R : Value → World → Prop) : cmp_Less_int n0 n1 w R = fnP Tryz.prog Tryz.f98 .o [.int .i64 n0, .int .i64 n1] w R := by kernel_rfl
theorem cmp_Less_int_calls {n0 : Int} {n1 : Int} {w : World} {R : Value → World → Prop} (h : cmp_Less_int n0 n1 w R) : Calls Tryz.prog 98 #[.int .i64 n0, .int .i64 n1] w fun e w1 => ∃ v, e = .returned v ∧ R v w1 := fnP_calls callable Tryz.func98 (cmp_Less_int_eq n0 n1 w R ▸ h)

/-- cmp.isNaN[int] -/
def cmp_isNaN_int (n0 : Int) (w : World) (R : Value → World → Prop) : Prop :=
  R (.bool (n0 != n0)) w
theorem cmp_isNaN_int_eq (n0 : Int) (w : World) (R : Value → World → Prop) : cmp_isNaN_int n0 w R = fnP Tryz.prog Tryz.f112 .o [.int .i64 n0] w R := by kernel_rfl
theorem cmp_isNaN_int_calls {n0 : Int} {w : World} {R : Value → World → Prop} (h : cmp_isNaN_int n0 w R) : Calls Tryz.prog 112 #[.int .i64 n0] w fun e w1 => ∃ v, e = .returned v ∧ R v w1 := fnP_calls callable Tryz.func112 (cmp_isNaN_int_eq n0 w R ▸ h)

end Go.Proofs.YtmipjkalfodcpaaGreatDoor
