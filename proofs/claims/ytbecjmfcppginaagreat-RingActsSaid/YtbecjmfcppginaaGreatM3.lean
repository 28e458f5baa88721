import Derived.Test.YtbecjmfcppginaaGreatM2
/-! The formulas of Go functions, printed by a program of this session (shprint.py), each tied to the loaded function by the kernel. -/
namespace Go.Proofs.YtbecjmfcppginaaGreat
open Go.Sh
set_option linter.unusedVariables false
set_option maxRecDepth 100000
/-- revetment/revetmentlaw13.RingActs -/
def revetmentlaw13_RingActs (n0 : Int) (p1 : Option Addr) (l1 c1 : Nat) (w : World) (R : Value → World → Prop) : Prop :=
  Calls Tryz.prog 4 #[.slice p1 l1 c1] w fun e w1 => ∃ b30 : Bool, e = .returned (.bool b30) ∧
  (b30 = true →
  Calls Tryz.prog 5 #[] w1 fun e_1 w2 => ∃ b35 : Bool, e_1 = .returned (.bool b35) ∧
  R (.bool b35) w2) ∧
  (b30 = false →
  Calls Tryz.prog 5 #[] w1 fun e_2 w3 => ∃ b32 : Bool, e_2 = .returned (.bool b32) ∧
  ((!b32) = true →
  Calls Tryz.prog 5 #[] w3 fun e_3 w4 => ∃ b35_1 : Bool, e_3 = .returned (.bool b35_1) ∧
  R (.bool b35_1) w4) ∧
  ((!b32) = false →
  Calls Tryz.prog 6 #[.int .i64 (IntKind.i64.wrap (1 + (Int.tmod (IntKind.i64.wrap n0) 180)))] w3 fun e_4 w5 => ∃ p41 : Option Addr, e_4 = .returned (.pointer p41) ∧
  Calls Tryz.prog 7 #[.int .i64 (IntKind.i64.wrap (1 + (Int.tmod (IntKind.i64.wrap n0) 180)))] w5 fun e_5 w6 => ∃ p43 : Option Addr, e_5 = .returned (.pointer p43) ∧
  ((Option.isNone p41) = true →
  R (.bool false) w6) ∧
  ((Option.isNone p41) = false →
  Calls Tryz.prog 8 #[.pointer p41] w6 fun e_6 w7 => ∃ n48 : Int, e_6 = .returned (.int .i64 n48) ∧
  Calls Tryz.prog 9 #[.pointer p43] w7 fun e_7 w8 => ∃ n50 : Int, e_7 = .returned (.int .i64 n50) ∧
  ((n48 != n50) = true →
  R (.bool false) w8) ∧
  ((n48 != n50) = false →
  Calls Tryz.prog 10 #[.int .i64 (IntKind.i64.wrap n0)] w8 fun e_8 w9 => ∃ n56 : Int, e_8 = .returned (.int .i64 n56) ∧
  Calls Tryz.prog 11 #[.int .i64 (IntKind.i64.wrap n0)] w9 fun e_9 w10 => ∃ n59 : Int, e_9 = .returned (.int .i64 n59) ∧
  ((n56 != n59) = true →
  R (.bool false) w10) ∧
  ((n56 != n59) = false →
  Calls Tryz.prog 12 #[.pointer p41] w10 fun e_10 w11 => ∃ p64_0 : Option Addr, ∃ (p64_1 : Option Addr) (l64_1 c64_1 : Nat), ∃ n64_2 : Int, e_10 = .returned (.tuple #[.pointer p64_0, .slice p64_1 l64_1 c64_1, .int .i64 n64_2]) ∧
  Calls Tryz.prog 13 #[.pointer p43] w11 fun e_11 w12 => ∃ p70_0 : Option Addr, ∃ (p70_1 : Option Addr) (l70_1 c70_1 : Nat), ∃ n70_2 : Int, e_11 = .returned (.tuple #[.pointer p70_0, .slice p70_1 l70_1 c70_1, .int .i64 n70_2]) ∧
  ((n64_2 != n70_2) = true →
  R (.bool false) w12) ∧
  ((n64_2 != n70_2) = false →
  LoopP (fun I => I [.pointer p64_0, .pointer p70_0, .int .i64 0] w12) fun K vs w13 => ∃ p8 : Option Addr, ∃ p11 : Option Addr, ∃ n14 : Int, vs = [.pointer p8, .pointer p11, .int .i64 n14] ∧
  ((decide (n14 < (l1 : Int))) = true →
  ∃ a85 : Addr, p1 = some a85 ∧ (0 : Int) ≤ n14 ∧ n14 < (l1 : Int) ∧
  ∃ n86_0 : Int, ∃ n86_1 : Int, ∃ (p86_2 : Option Addr) (l86_2 c86_2 : Nat), ∃ (p86_3 : Option Addr) (l86_3 c86_3 : Nat), ∃ (p86_4 : Option Addr) (l86_4 c86_4 : Nat), (w13.cell? (Addr.add a85 (n14.toNat * 5)) = some (.int .i64 n86_0) ∧ w13.cell? (Addr.add (Addr.add a85 (n14.toNat * 5)) 1) = some (.int .i64 n86_1) ∧ w13.cell? (Addr.add (Addr.add a85 (n14.toNat * 5)) 2) = some (.slice p86_2 l86_2 c86_2) ∧ w13.cell? (Addr.add (Addr.add a85 (n14.toNat * 5)) 3) = some (.slice p86_3 l86_3 c86_3) ∧ w13.cell? (Addr.add (Addr.add a85 (n14.toNat * 5)) 4) = some (.slice p86_4 l86_4 c86_4)) ∧
  Alloc #[.int .i64 0, .int .i64 0, .slice none 0 0, .slice none 0 0, .slice none 0 0] 46 w13 fun k15 w14 =>
  St ⟨k15, 0, none⟩ (.int .i64 n86_0) w14 fun w15 =>
  St ⟨k15, 1, none⟩ (.int .i64 n86_1) w15 fun w16 =>
  St ⟨k15, 2, none⟩ (.slice p86_2 l86_2 c86_2) w16 fun w17 =>
  St ⟨k15, 3, none⟩ (.slice p86_3 l86_3 c86_3) w17 fun w18 =>
  St ⟨k15, 4, none⟩ (.slice p86_4 l86_4 c86_4) w18 fun w19 =>
  Join (fun vs_1 w20 => ∃ b16 : Bool, vs_1 = [.bool b16] ∧
  Join (fun vs_2 w21 => vs_2 = [] ∧
  Join (fun vs_3 w22 => ∃ p8_1 : Option Addr, ∃ p11_1 : Option Addr, vs_3 = [.pointer p8_1, .pointer p11_1] ∧
  ((Option.isNone p11_1) = true →
  ((!((Option.isNone p11_1) == (Option.isNone p8_1))) = true →
  R (.bool false) w22) ∧
  ((!((Option.isNone p11_1) == (Option.isNone p8_1))) = false →
  K [.pointer p8_1, .pointer p11_1, .int .i64 (IntKind.i64.wrap (n14 + 1))] w22)) ∧
  ((Option.isNone p11_1) = false →
  ((Option.isNone p8_1) = true →
  ((!((Option.isNone p11_1) == (Option.isNone p8_1))) = true →
  R (.bool false) w22) ∧
  ((!((Option.isNone p11_1) == (Option.isNone p8_1))) = false →
  K [.pointer p8_1, .pointer p11_1, .int .i64 (IntKind.i64.wrap (n14 + 1))] w22)) ∧
  ((Option.isNone p8_1) = false →
  Join (fun vs_4 w23 => vs_4 = [] ∧
  Join (fun vs_5 w24 => vs_5 = [] ∧
  ∃ D : World → Prop, D w24.drew ∧
  Calls Tryz.prog 29 #[.pointer p8_1] w24.drew fun e_12 w25 => ∃ n270 : Int, e_12 = .returned (.int .i64 n270) ∧
  D w25 ∧
  Calls Tryz.prog 30 #[.pointer p11_1] w25 fun e_13 w26 => ∃ n272 : Int, e_13 = .returned (.int .i64 n272) ∧
  D w26 ∧
  ((n270 != n272) = true →
  R (.bool false) w26) ∧
  ((n270 != n272) = false →
  Calls Tryz.prog 31 #[.pointer p8_1] w26 fun e_14 w27 => ∃ n276 : Int, e_14 = .returned (.int .u64 n276) ∧
  D w27 ∧
  ∃ a278 : Addr, p11_1 = some a278 ∧
  ∃ n280 : Int, (∀ w, D w → w.cell? (a278.add 2) = some (.int .u64 n280)) ∧
  ((n276 != n280) = true →
  R (.bool false) w27) ∧
  ((n276 != n280) = false →
  K [.pointer p8_1, .pointer p11_1, .int .i64 (IntKind.i64.wrap (n14 + 1))] w27))) fun J_4 =>
  ∃ D_1 : World → Prop, D_1 w23.drew ∧
  ∃ n244 : Int, (∀ w, D_1 w → w.cell? ⟨k15, 0, none⟩ = some (.int .i64 n244)) ∧
  ((n244 == 2) = true →
  ∃ a249 : Addr, p11_1 = some a249 ∧
  ∃ n251 : Int, (∀ w, D_1 w → w.cell? (a249.add 1) = some (.int .u64 n251)) ∧
  ∃ n253 : Int, (∀ w, D_1 w → w.cell? ⟨k15, 1, none⟩ = some (.int .i64 n253)) ∧
  Calls Tryz.prog 27 #[.pointer p8_1, .int .u64 (IntKind.u64.wrap (n251 + (IntKind.u64.wrap n253)))] w23.drew fun e_15 w28 => ∃ n256 : Int, e_15 = .returned (.int .i64 n256) ∧
  D_1 w28 ∧
  ∃ a259 : Addr, p11_1 = some a259 ∧
  ∃ n261 : Int, (∀ w, D_1 w → w.cell? (a259.add 1) = some (.int .u64 n261)) ∧
  ∃ n263 : Int, (∀ w, D_1 w → w.cell? ⟨k15, 1, none⟩ = some (.int .i64 n263)) ∧
  Calls Tryz.prog 28 #[.pointer p11_1, .int .u64 (IntKind.u64.wrap (n261 + (IntKind.u64.wrap n263)))] w28 fun e_16 w29 => ∃ n266 : Int, e_16 = .returned (.int .i64 n266) ∧
  ((n256 != n266) = true →
  R (.bool false) w29) ∧
  ((n256 != n266) = false →
  J_4 [] w29)) ∧
  ((n244 == 2) = false →
  J_4 [] w23.drew)) fun J_3 =>
  ∃ n203 : Int, w22.cell? ⟨k15, 0, none⟩ = some (.int .i64 n203) ∧
  ((n203 == 0) = true →
  ∃ (p211 : Option Addr) (l211 c211 : Nat), w22.cell? ⟨k15, 3, none⟩ = some (.slice p211 l211 c211) ∧
  Join (fun vs_6 w30 => ∃ (p24 : Option Addr) (l24 c24 : Nat), vs_6 = [.slice p24 l24 c24] ∧
  ∃ n221 : Int, w30.cell? ⟨k15, 1, none⟩ = some (.int .i64 n221) ∧
  Calls Tryz.prog 24 #[.pointer p8_1, .int .i64 n221, .slice p24 l24 c24] w30 fun e_17 w31 => ∃ n223_0 : Int, ∃ n223_1 : Int, e_17 = .returned (.tuple #[.int .u64 n223_0, .int .i64 n223_1]) ∧
  ∃ D_2 : World → Prop, D_2 w31.drew ∧
  ∃ n229 : Int, (∀ w, D_2 w → w.cell? ⟨k15, 1, none⟩ = some (.int .i64 n229)) ∧
  Calls Tryz.prog 26 #[.slice p24 l24 c24] w31.drew fun e_18 w32 => ∃ (p231 : Option Addr) (l231 c231 : Nat), e_18 = .returned (.slice p231 l231 c231) ∧
  D_2 w32 ∧
  Calls Tryz.prog 25 #[.pointer p11_1, .int .i64 n229, .slice p231 l231 c231] w32 fun e_19 w33 => ∃ n232_0 : Int, ∃ n232_1 : Int, e_19 = .returned (.tuple #[.int .u64 n232_0, .int .i64 n232_1]) ∧
  D_2 w33 ∧
  ((n223_0 != n232_0) = true →
  R (.bool false) w33) ∧
  ((n223_0 != n232_0) = false →
  ((n223_1 != n232_1) = true →
  R (.bool false) w33) ∧
  ((n223_1 != n232_1) = false →
  J_3 [] w33))) fun J_5 =>
  ∃ n213 : Int, w22.cell? ⟨k15, 0, none⟩ = some (.int .i64 n213) ∧
  ((n213 == 0) = true →
  ∃ (p216 : Option Addr) (l216 c216 : Nat), w22.cell? ⟨k15, 2, none⟩ = some (.slice p216 l216 c216) ∧
  Calls Tryz.prog 23 #[.slice p216 l216 c216] w22 fun e_20 w34 => ∃ (p217 : Option Addr) (l217 c217 : Nat), e_20 = .returned (.slice p217 l217 c217) ∧
  J_5 [.slice p217 l217 c217] w34) ∧
  ((n213 == 0) = false →
  J_5 [.slice p211 l211 c211] w22)) ∧
  ((n203 == 0) = false →
  ∃ n207 : Int, w22.cell? ⟨k15, 0, none⟩ = some (.int .i64 n207) ∧
  ((n207 == 1) = true →
  ∃ (p211_1 : Option Addr) (l211_1 c211_1 : Nat), w22.cell? ⟨k15, 3, none⟩ = some (.slice p211_1 l211_1 c211_1) ∧
  Join (fun vs_7 w35 => ∃ (p24_1 : Option Addr) (l24_1 c24_1 : Nat), vs_7 = [.slice p24_1 l24_1 c24_1] ∧
  ∃ n221_1 : Int, w35.cell? ⟨k15, 1, none⟩ = some (.int .i64 n221_1) ∧
  Calls Tryz.prog 24 #[.pointer p8_1, .int .i64 n221_1, .slice p24_1 l24_1 c24_1] w35 fun e_21 w36 => ∃ n223_0_1 : Int, ∃ n223_1_1 : Int, e_21 = .returned (.tuple #[.int .u64 n223_0_1, .int .i64 n223_1_1]) ∧
  ∃ D_3 : World → Prop, D_3 w36.drew ∧
  ∃ n229_1 : Int, (∀ w, D_3 w → w.cell? ⟨k15, 1, none⟩ = some (.int .i64 n229_1)) ∧
  Calls Tryz.prog 26 #[.slice p24_1 l24_1 c24_1] w36.drew fun e_22 w37 => ∃ (p231_1 : Option Addr) (l231_1 c231_1 : Nat), e_22 = .returned (.slice p231_1 l231_1 c231_1) ∧
  D_3 w37 ∧
  Calls Tryz.prog 25 #[.pointer p11_1, .int .i64 n229_1, .slice p231_1 l231_1 c231_1] w37 fun e_23 w38 => ∃ n232_0_1 : Int, ∃ n232_1_1 : Int, e_23 = .returned (.tuple #[.int .u64 n232_0_1, .int .i64 n232_1_1]) ∧
  D_3 w38 ∧
  ((n223_0_1 != n232_0_1) = true →
  R (.bool false) w38) ∧
  ((n223_0_1 != n232_0_1) = false →
  ((n223_1_1 != n232_1_1) = true →
  R (.bool false) w38) ∧
  ((n223_1_1 != n232_1_1) = false →
  J_3 [] w38))) fun J_6 =>
  ∃ n213_1 : Int, w22.cell? ⟨k15, 0, none⟩ = some (.int .i64 n213_1) ∧
  ((n213_1 == 0) = true →
  ∃ (p216_1 : Option Addr) (l216_1 c216_1 : Nat), w22.cell? ⟨k15, 2, none⟩ = some (.slice p216_1 l216_1 c216_1) ∧
  Calls Tryz.prog 23 #[.slice p216_1 l216_1 c216_1] w22 fun e_24 w39 => ∃ (p217_1 : Option Addr) (l217_1 c217_1 : Nat), e_24 = .returned (.slice p217_1 l217_1 c217_1) ∧
  J_6 [.slice p217_1 l217_1 c217_1] w39) ∧
  ((n213_1 == 0) = false →
  J_6 [.slice p211_1 l211_1 c211_1] w22)) ∧
  ((n207 == 1) = false →
  J_3 [] w22))))) fun J_2 =>
  (b16 = true →
  Calls Tryz.prog 12 #[.pointer p41] w21 fun e_25 w40 => ∃ p163_0 : Option Addr, ∃ (p163_1 : Option Addr) (l163_1 c163_1 : Nat), ∃ n163_2 : Int, e_25 = .returned (.tuple #[.pointer p163_0, .slice p163_1 l163_1 c163_1, .int .i64 n163_2]) ∧
  Calls Tryz.prog 13 #[.pointer p43] w40 fun e_26 w41 => ∃ p169_0 : Option Addr, ∃ (p169_1 : Option Addr) (l169_1 c169_1 : Nat), ∃ n169_2 : Int, e_26 = .returned (.tuple #[.pointer p169_0, .slice p169_1 l169_1 c169_1, .int .i64 n169_2]) ∧
  ((n163_2 != n169_2) = true →
  R (.bool false) w41) ∧
  ((n163_2 != n169_2) = false →
  Calls Tryz.prog 22 #[.slice p163_1 l163_1 c163_1, .slice p169_1 l169_1 c169_1] w41 fun e_27 w42 => ∃ b179 : Bool, e_27 = .returned (.bool b179) ∧
  ((!b179) = true →
  R (.bool false) w42) ∧
  ((!b179) = false →
  ((!((Option.isNone p163_0) == (Option.isNone p169_0))) = true →
  R (.bool false) w42) ∧
  ((!((Option.isNone p163_0) == (Option.isNone p169_0))) = false →
  J_2 [.pointer p163_0, .pointer p169_0] w42)))) ∧
  (b16 = false →
  J_2 [.pointer p8, .pointer p11] w21)) fun J_1 =>
  ∃ n101 : Int, w20.cell? ⟨k15, 0, none⟩ = some (.int .i64 n101) ∧
  ((n101 == 4) = true →
  ∃ (p106 : Option Addr) (l106 c106 : Nat), w20.cell? ⟨k15, 4, none⟩ = some (.slice p106 l106 c106) ∧
  Calls Tryz.prog 14 #[.pointer p41, .slice p106 l106 c106] w20 fun e_28 w43 => e_28 = .returned (.tuple #[]) ∧
  ∃ (p110 : Option Addr) (l110 c110 : Nat), w43.cell? ⟨k15, 4, none⟩ = some (.slice p110 l110 c110) ∧
  Calls Tryz.prog 15 #[.pointer p43, .slice p110 l110 c110] w43 fun e_29 w44 => e_29 = .returned (.tuple #[]) ∧
  J_1 [] w44) ∧
  ((n101 == 4) = false →
  ((n101 == 5) = true →
  Join (fun vs_8 w45 => ∃ s17 : ByteArray, vs_8 = [.string s17] ∧
  ∃ D_4 : World → Prop, D_4 w45.drew ∧
  ∃ n124 : Int, (∀ w, D_4 w → w.cell? ⟨k15, 1, none⟩ = some (.int .i64 n124)) ∧
  Calls Tryz.prog 17 #[.string s17] w45.drew fun e_30 w46 => ∃ s126 : ByteArray, e_30 = .returned (.string s126) ∧
  D_4 w46 ∧
  Calls Tryz.prog 16 #[.pointer p41, .int .i64 n124, .string s126] w46 fun e_31 w47 => ∃ n127 : Int, e_31 = .returned (.int .i64 n127) ∧
  D_4 w47 ∧
  ∃ n130 : Int, (∀ w, D_4 w → w.cell? ⟨k15, 1, none⟩ = some (.int .i64 n130)) ∧
  Calls Tryz.prog 17 #[.string s17] w47 fun e_32 w48 => ∃ s132 : ByteArray, e_32 = .returned (.string s132) ∧
  D_4 w48 ∧
  Calls Tryz.prog 18 #[.pointer p43, .int .i64 n130, .string s132] w48 fun e_33 w49 => ∃ n133 : Int, e_33 = .returned (.int .i64 n133) ∧
  ((n127 != n133) = true →
  R (.bool false) w49) ∧
  ((n127 != n133) = false →
  J_1 [] w49)) fun J_7 =>
  ∃ (p115 : Option Addr) (l115 c115 : Nat), w20.cell? ⟨k15, 2, none⟩ = some (.slice p115 l115 c115) ∧
  ((decide ((l115 : Int) > 0)) = true →
  ∃ (p119 : Option Addr) (l119 c119 : Nat), w20.cell? ⟨k15, 2, none⟩ = some (.slice p119 l119 c119) ∧
  ∃ a120 : Addr, p119 = some a120 ∧ (0 : Int) ≤ 0 ∧ 0 < (l119 : Int) ∧
  ∃ s121 : ByteArray, w20.cell? a120 = some (.string s121) ∧
  J_7 [.string s121] w20) ∧
  ((decide ((l115 : Int) > 0)) = false →
  J_7 [.string (ByteArray.mk #[])] w20)) ∧
  ((n101 == 5) = false →
  ((n101 == 6) = true →
  ∃ D_5 : World → Prop, D_5 w20.drew ∧
  ∃ n139 : Int, (∀ w, D_5 w → w.cell? ⟨k15, 1, none⟩ = some (.int .i64 n139)) ∧
  Calls Tryz.prog 19 #[.pointer p41, .int .i64 n139] w20.drew fun e_34 w50 => ∃ n140 : Int, e_34 = .returned (.int .i64 n140) ∧
  D_5 w50 ∧
  ∃ n143 : Int, (∀ w, D_5 w → w.cell? ⟨k15, 1, none⟩ = some (.int .i64 n143)) ∧
  Calls Tryz.prog 20 #[.pointer p43, .int .i64 n143] w50 fun e_35 w51 => ∃ n144 : Int, e_35 = .returned (.int .i64 n144) ∧
  ((n140 != n144) = true →
  R (.bool false) w51) ∧
  ((n140 != n144) = false →
  J_1 [] w51)) ∧
  ((n101 == 6) = false →
  ((n101 == 7) = true →
  Calls Tryz.prog 21 #[.pointer p41] w20 fun e_36 w52 => e_36 = .returned (.tuple #[]) ∧
  ∃ a151 : Addr, p43 = some a151 ∧
  St (a151.add 3) (.bool true) w52 fun w53 =>
  J_1 [] w53) ∧
  ((n101 == 7) = false →
  ((n101 == 8) = true →
  Calls Tryz.prog 8 #[.pointer p41] w20 fun e_37 w54 => ∃ n156 : Int, e_37 = .returned (.int .i64 n156) ∧
  Calls Tryz.prog 9 #[.pointer p43] w54 fun e_38 w55 => ∃ n158 : Int, e_38 = .returned (.int .i64 n158) ∧
  ((n156 != n158) = true →
  R (.bool false) w55) ∧
  ((n156 != n158) = false →
  J_1 [] w55)) ∧
  ((n101 == 8) = false →
  J_1 [] w20)))))) fun J =>
  ∃ n88 : Int, w19.cell? ⟨k15, 0, none⟩ = some (.int .i64 n88) ∧
  ((n88 == 3) = true →
  J [.bool true] w19) ∧
  ((n88 == 3) = false →
  ∃ n92 : Int, w19.cell? ⟨k15, 0, none⟩ = some (.int .i64 n92) ∧
  ((n92 == 4) = true →
  J [.bool true] w19) ∧
  ((n92 == 4) = false →
  ∃ n97 : Int, w19.cell? ⟨k15, 0, none⟩ = some (.int .i64 n97) ∧
  J [.bool (n97 == 8)] w19))) ∧
  ((decide (n14 < (l1 : Int))) = false →
  R (.bool true) w13)))))))
theorem revetmentlaw13_RingActs_eq (n0 : Int) (p1 : Option Addr) (l1 c1 : Nat) (w : World) (R : Value → World → Prop) : revetmentlaw13_RingActs n0 p1 l1 c1 w R = fnP Tryz.prog Tryz.f3 (.s .o (.s .o (.s .o (.s .o (.s .o (.s .o (.s .o (.s .o (.s .o (.s (.s .o (.b (.l [(8, .one .ptr), (11, .one .ptr), (14, .one (.int .i64))] (.s .o (.s (.b (.s .o (.j [(16, .one .bool)] .o (.j [] (.s .o (.b (.s .o (.c .o (.s .o (.c (.s .o (.j [(17, .one .str)] .o .o)) .o)))))) (.j [(8, .one .ptr), (11, .one .ptr)] .o (.s .o (.j [] (.s .o (.c (.s .o (.j [(24, .one .slice)] .o .o)) .o)) (.j [] .o .o)))))))) .o))))) .o)))))))))) [.int .u16 n0, .slice p1 l1 c1] w R := by kernel_rfl
theorem revetmentlaw13_RingActs_calls {n0 : Int} {p1 : Option Addr} {l1 c1 : Nat} {w : World} {R : Value → World → Prop} (h : revetmentlaw13_RingActs n0 p1 l1 c1 w R) : Calls Tryz.prog 3 #[.int .u16 n0, .slice p1 l1 c1] w fun e w1 => ∃ v, e = .returned v ∧ R v w1 := fnP_calls callable Tryz.func3 (revetmentlaw13_RingActs_eq n0 p1 l1 c1 w R ▸ h)

/-- revetment/revetmentlaw13.weighs -/
def revetmentlaw13_weighs (p0 : Option Addr) (l0 c0 : Nat) (w : World) (R : Value → World → Prop) : Prop :=
  ((decide ((l0 : Int) > 40)) = true →
  R (.bool true) w) ∧
  ((decide ((l0 : Int) > 40)) = false →
  LoopP (fun I => I [.int .i64 0] w) fun K vs w1 => ∃ n3 : Int, vs = [.int .i64 n3] ∧
  ((decide (n3 < (l0 : Int))) = true →
  ∃ a16 : Addr, p0 = some a16 ∧ (0 : Int) ≤ n3 ∧ n3 < (l0 : Int) ∧
  ∃ (p18 : Option Addr) (l18 c18 : Nat), w1.cell? (Addr.add (Addr.add a16 (n3.toNat * 5)) 2) = some (.slice p18 l18 c18) ∧
  Calls Tryz.prog 32 #[.slice p18 l18 c18] w1 fun e w2 => ∃ b19 : Bool, e = .returned (.bool b19) ∧
  (b19 = true →
  R (.bool true) w2) ∧
  (b19 = false →
  ∃ a23 : Addr, p0 = some a23 ∧ (0 : Int) ≤ n3 ∧ n3 < (l0 : Int) ∧
  ∃ (p25 : Option Addr) (l25 c25 : Nat), w2.cell? (Addr.add (Addr.add a23 (n3.toNat * 5)) 3) = some (.slice p25 l25 c25) ∧
  ((decide ((l25 : Int) > 50)) = true →
  R (.bool true) w2) ∧
  ((decide ((l25 : Int) > 50)) = false →
  ∃ a32 : Addr, p0 = some a32 ∧ (0 : Int) ≤ n3 ∧ n3 < (l0 : Int) ∧
  ∃ (p34 : Option Addr) (l34 c34 : Nat), w2.cell? (Addr.add (Addr.add a32 (n3.toNat * 5)) 4) = some (.slice p34 l34 c34) ∧
  ((decide ((l34 : Int) > 50)) = true →
  R (.bool true) w2) ∧
  ((decide ((l34 : Int) > 50)) = false →
  LoopP (fun I_1 => I_1 [.int .i64 0] w2) fun K_1 vs_1 w3 => ∃ n4 : Int, vs_1 = [.int .i64 n4] ∧
  ∃ a41 : Addr, p0 = some a41 ∧ (0 : Int) ≤ n3 ∧ n3 < (l0 : Int) ∧
  ∃ (p43 : Option Addr) (l43 c43 : Nat), w3.cell? (Addr.add (Addr.add a41 (n3.toNat * 5)) 3) = some (.slice p43 l43 c43) ∧
  ((decide (n4 < (l43 : Int))) = true →
  ∃ a50 : Addr, p0 = some a50 ∧ (0 : Int) ≤ n3 ∧ n3 < (l0 : Int) ∧
  ∃ (p52 : Option Addr) (l52 c52 : Nat), w3.cell? (Addr.add (Addr.add a50 (n3.toNat * 5)) 3) = some (.slice p52 l52 c52) ∧
  ∃ a54 : Addr, p52 = some a54 ∧ (0 : Int) ≤ n4 ∧ n4 < (l52 : Int) ∧
  ∃ s56 : ByteArray, w3.cell? (Addr.add (Addr.add a54 (n4.toNat * 3)) 2) = some (.string s56) ∧
  ((decide ((s56.size : Int) > 100)) = true →
  R (.bool true) w3) ∧
  ((decide ((s56.size : Int) > 100)) = false →
  K_1 [.int .i64 (IntKind.i64.wrap (n4 + 1))] w3)) ∧
  ((decide (n4 < (l43 : Int))) = false →
  K [.int .i64 (IntKind.i64.wrap (n3 + 1))] w3))))) ∧
  ((decide (n3 < (l0 : Int))) = false →
  R (.bool false) w1))
theorem revetmentlaw13_weighs_eq (p0 : Option Addr) (l0 c0 : Nat) (w : World) (R : Value → World → Prop) : revetmentlaw13_weighs p0 l0 c0 w R = fnP Tryz.prog Tryz.f4 (.s .o (.s .o (.s (.s .o (.b (.l [(3, .one (.int .i64))] (.s .o (.s (.b (.s .o (.s .o (.b (.l [(4, .one (.int .i64))] .o))))) .o))))) .o))) [.slice p0 l0 c0] w R := by kernel_rfl
theorem revetmentlaw13_weighs_calls {p0 : Option Addr} {l0 c0 : Nat} {w : World} {R : Value → World → Prop} (h : revetmentlaw13_weighs p0 l0 c0 w R) : Calls Tryz.prog 4 #[.slice p0 l0 c0] w fun e w1 => ∃ v, e = .returned v ∧ R v w1 := fnP_calls callable Tryz.func4 (revetmentlaw13_weighs_eq p0 l0 c0 w R ▸ h)

/-- revetment/revetmentlaw13.shown -/
def revetmentlaw13_shown (w : World) (R : Value → World → Prop) : Prop :=
  Calls Tryz.prog 6 #[.int .i64 90] w fun e w1 => ∃ p7 : Option Addr, e = .returned (.pointer p7) ∧
  ((Option.isNone p7) = true →
  R (.bool false) w1) ∧
  ((Option.isNone p7) = false →
  Calls Tryz.prog 8 #[.pointer p7] w1 fun e_1 w2 => ∃ n12 : Int, e_1 = .returned (.int .i64 n12) ∧
  ((n12 != 0) = true →
  R (.bool false) w2) ∧
  ((n12 != 0) = false →
  Calls Tryz.prog 12 #[.pointer p7] w2 fun e_2 w3 => ∃ p17_0 : Option Addr, ∃ (p17_1 : Option Addr) (l17_1 c17_1 : Nat), ∃ n17_2 : Int, e_2 = .returned (.tuple #[.pointer p17_0, .slice p17_1 l17_1 c17_1, .int .i64 n17_2]) ∧
  ((Option.isNone p17_0) = true →
  R (.bool false) w3) ∧
  ((Option.isNone p17_0) = false →
  (((l17_1 : Int) != 0) = true →
  R (.bool false) w3) ∧
  (((l17_1 : Int) != 0) = false →
  ((n17_2 != 0) = true →
  R (.bool false) w3) ∧
  ((n17_2 != 0) = false →
  Alloc #[.string (ByteArray.mk #[97])] 9 w3 fun k34 w4 =>
  Calls Tryz.prog 23 #[.slice (some ⟨k34, 0, none⟩) 1 1] w4 fun e_3 w5 => ∃ (p35 : Option Addr) (l35 c35 : Nat), e_3 = .returned (.slice p35 l35 c35) ∧
  Calls Tryz.prog 24 #[.pointer p17_0, .int .i64 3, .slice p35 l35 c35] w5 fun e_4 w6 => ∃ n36_0 : Int, ∃ n36_1 : Int, e_4 = .returned (.tuple #[.int .u64 n36_0, .int .i64 n36_1]) ∧
  ((n36_0 == 1) = true →
  ((n36_1 == 0) = true →
  Calls Tryz.prog 29 #[.pointer p17_0] w6 fun e_5 w7 => ∃ n47 : Int, e_5 = .returned (.int .i64 n47) ∧
  ((n47 == 1) = true →
  Calls Tryz.prog 31 #[.pointer p17_0] w7 fun e_6 w8 => ∃ n52 : Int, e_6 = .returned (.int .u64 n52) ∧
  ((n52 == 2) = true →
  Calls Tryz.prog 10 #[.int .i64 90] w8 fun e_7 w9 => ∃ n56 : Int, e_7 = .returned (.int .i64 n56) ∧
  R (.bool (n56 == 2)) w9) ∧
  ((n52 == 2) = false →
  R (.bool false) w8)) ∧
  ((n47 == 1) = false →
  R (.bool false) w7)) ∧
  ((n36_1 == 0) = false →
  R (.bool false) w6)) ∧
  ((n36_0 == 1) = false →
  R (.bool false) w6))))))
theorem revetmentlaw13_shown_eq (w : World) (R : Value → World → Prop) : revetmentlaw13_shown w R = fnP Tryz.prog Tryz.f5 .o [] w R := by kernel_rfl
theorem revetmentlaw13_shown_calls {w : World} {R : Value → World → Prop} (h : revetmentlaw13_shown w R) : Calls Tryz.prog 5 #[] w fun e w1 => ∃ v, e = .returned v ∧ R v w1 := fnP_calls callable Tryz.func5 (revetmentlaw13_shown_eq w R ▸ h)

/-- revetment/ring.Format -/
def ring_Format (p0 : Option Addr) (w : World) (R : Value → World → Prop) : Prop :=
  Calls Tryz.prog 34 #[.pointer p0] w fun e w1 => ∃ n7 : Int, e = .returned (.int .i64 n7) ∧
  Calls Tryz.prog 10 #[.int .i64 n7] w1 fun e_1 w2 => ∃ n8 : Int, e_1 = .returned (.int .i64 n8) ∧
  ((n8 == 0) = true →
  R (.int .i64 1) w2) ∧
  ((n8 == 0) = false →
  LoopP (fun I => I [.slice none 0 0, .int .i64 0] w2) fun K vs w3 => ∃ (p4 : Option Addr) (l4 c4 : Nat), ∃ n12 : Int, vs = [.slice p4 l4 c4, .int .i64 n12] ∧
  ((decide (n12 < n8)) = true →
  Calls Tryz.prog 36 #[.string (ByteArray.mk #[0]), .int .i64 64] w3 fun e_2 w4 => ∃ s20 : ByteArray, e_2 = .returned (.string s20) ∧
  Calls Tryz.prog 35 #[.pointer p0, .int .i64 (IntKind.i64.wrap (4 + (IntKind.i64.wrap (41 * n12)))), .string s20] w4 fun e_3 w5 => ∃ v21 : Value, e_3 = .returned v21 ∧
  LitS Tryz.prog 78 1 [(0, v21)] w5 fun k22 w6 =>
  ∃ (p23 : Option Addr) (l23 c23 : Nat), ∃ w7, (builtin .append #[78, 78] 78 #[false, false] #[.slice p4 l4 c4, .slice (some ⟨k22, 0, none⟩) 1 1]).run Tryz.prog w6 = .ok (.value (.slice p23 l23 c23)) w7 ∧
  K [.slice p23 l23 c23, .int .i64 (IntKind.i64.wrap (n12 + 1))] w7) ∧
  ((decide (n12 < n8)) = false →
  Calls Tryz.prog 38 #[.int .u64 0] w3 fun e_4 w8 => ∃ s27 : ByteArray, e_4 = .returned (.string s27) ∧
  Calls Tryz.prog 35 #[.pointer p0, .int .i64 3, .string s27] w8 fun e_5 w9 => ∃ v28 : Value, e_5 = .returned v28 ∧
  LitS Tryz.prog 78 2 [(0, v28), (1, .func (.func 39) #[.pointer p0] #[])] w9 fun k31 w10 =>
  ∃ (p32 : Option Addr) (l32 c32 : Nat), ∃ w11, (builtin .append #[78, 78] 78 #[false, false] #[.slice p4 l4 c4, .slice (some ⟨k31, 0, none⟩) 2 2]).run Tryz.prog w10 = .ok (.value (.slice p32 l32 c32)) w11 ∧
  Calls Tryz.prog 37 #[.slice p32 l32 c32] w11 fun e_6 w12 => ∃ n33 : Int, e_6 = .returned (.int .i64 n33) ∧
  R (.int .i64 n33) w12))
theorem ring_Format_eq (p0 : Option Addr) (w : World) (R : Value → World → Prop) : ring_Format p0 w R = fnP Tryz.prog Tryz.f8 (.s .o (.s .o (.s .o (.s .o (.s (.s .o (.b (.l [(4, .one .slice), (12, .one (.int .i64))] .o))) .o))))) [.pointer p0] w R := by kernel_rfl
theorem ring_Format_calls {p0 : Option Addr} {w : World} {R : Value → World → Prop} (h : ring_Format p0 w R) : Calls Tryz.prog 8 #[.pointer p0] w fun e w1 => ∃ v, e = .returned v ∧ R v w1 := fnP_calls callable Tryz.func8 (ring_Format_eq p0 w R ▸ h)

/-- revetment/ring.Slots -/
def ring_Slots (n0 : Int) (w : World) (R : Value → World → Prop) : Prop :=
  ∃ n5 : Int, ∃ w1, (builtin .max #[3, 3] 3 #[false, true] #[.int .i64 (IntKind.i64.wrap (n0 - 4)), .int .i64 0]).run Tryz.prog w = .ok (.value (.int .i64 n5)) w1 ∧
  R (.int .i64 (IntKind.i64.wrap (Int.tdiv n5 41))) w1
theorem ring_Slots_eq (n0 : Int) (w : World) (R : Value → World → Prop) : ring_Slots n0 w R = fnP Tryz.prog Tryz.f10 .o [.int .i64 n0] w R := by kernel_rfl
theorem ring_Slots_calls {n0 : Int} {w : World} {R : Value → World → Prop} (h : ring_Slots n0 w R) : Calls Tryz.prog 10 #[.int .i64 n0] w fun e w1 => ∃ v, e = .returned v ∧ R v w1 := fnP_calls callable Tryz.func10 (ring_Slots_eq n0 w R ▸ h)

/-- revetment/ring.Open -/
def ring_Open (p0 : Option Addr) (w : World) (R : Value → World → Prop) : Prop :=
  Calls Tryz.prog 42 #[.pointer p0, .int .i64 3] w fun e w1 => ∃ s17_0 : ByteArray, ∃ n17_1 : Int, e = .returned (.tuple #[.string s17_0, .int .i64 n17_1]) ∧
  ((n17_1 != 0) = true →
  R (.tuple #[.pointer none, .slice none 0 0, .int .i64 n17_1]) w1) ∧
  ((n17_1 != 0) = false →
  Calls Tryz.prog 34 #[.pointer p0] w1 fun e_1 w2 => ∃ n25 : Int, e_1 = .returned (.int .i64 n25) ∧
  Calls Tryz.prog 10 #[.int .i64 n25] w2 fun e_2 w3 => ∃ n26 : Int, e_2 = .returned (.int .i64 n26) ∧
  Alloc #[.pointer p0, .int .i64 n26, .int .u64 0, .int .u64 0] 87 w3 fun k28 w4 =>
  Calls Tryz.prog 43 #[.string s17_0] w4 fun e_3 w5 => ∃ s31_0 : ByteArray, ∃ b31_1 : Bool, e_3 = .returned (.tuple #[.string s31_0, .bool b31_1]) ∧
  ((!b31_1) = true →
  R (.tuple #[.pointer none, .slice none 0 0, .int .i64 200]) w5) ∧
  ((!b31_1) = false →
  ∃ a38 : Addr, (some ⟨k28, 0, none⟩) = some a38 ∧
  ∃ n40 : Int, w5.cell? (a38.add 1) = some (.int .i64 n40) ∧
  ((n40 == 0) = true →
  R (.tuple #[.pointer none, .slice none 0 0, .int .i64 200]) w5) ∧
  ((n40 == 0) = false →
  ∃ s45 : ByteArray, ∃ w6, (Instr.sliceAt 9 (.string s31_0) (some (.int .i64 4)) (some (.int .i64 12)) none).run Tryz.prog w5 = .ok (.string s45) w6 ∧
  Alloc #[.int .i64 8] 3 w6 fun k46 w7 =>
  Calls Tryz.prog 44 #[.string s45, .slice (some ⟨k46, 0, none⟩) 1 1] w7 fun e_4 w8 => ∃ (p47_0 : Option Addr) (l47_0 c47_0 : Nat), ∃ n47_1 : Int, e_4 = .returned (.tuple #[.slice p47_0 l47_0 c47_0, .int .i64 n47_1]) ∧
  (((l47_0 : Int) != 1) = true →
  R (.tuple #[.pointer none, .slice none 0 0, .int .i64 200]) w8) ∧
  (((l47_0 : Int) != 1) = false →
  ∃ a55 : Addr, p47_0 = some a55 ∧ (0 : Int) ≤ 0 ∧ 0 < (l47_0 : Int) ∧
  ∃ n56 : Int, w8.cell? a55 = some (.int .u64 n56) ∧
  Calls Tryz.prog 38 #[.int .u64 n56] w8 fun e_5 w9 => ∃ s57 : ByteArray, e_5 = .returned (.string s57) ∧
  ((!(s57.toList == s17_0.toList)) = true →
  R (.tuple #[.pointer none, .slice none 0 0, .int .i64 200]) w9) ∧
  ((!(s57.toList == s17_0.toList)) = false →
  ∃ D : World → Prop, D w9.drew ∧
  ∃ a64 : Addr, p47_0 = some a64 ∧ (0 : Int) ≤ 0 ∧ 0 < (l47_0 : Int) ∧
  ∃ n65 : Int, (∀ w, D w → w.cell? a64 = some (.int .u64 n65)) ∧
  ∃ a67 : Addr, p47_0 = some a67 ∧ (0 : Int) ≤ 0 ∧ 0 < (l47_0 : Int) ∧
  ∃ n68 : Int, (∀ w, D w → w.cell? a67 = some (.int .u64 n68)) ∧
  ∃ a70 : Addr, (some ⟨k28, 0, none⟩) = some a70 ∧
  St (a70.add 2) (.int .u64 n65) w9.drew fun w10 =>
  D w10 ∧
  ∃ a72 : Addr, (some ⟨k28, 0, none⟩) = some a72 ∧
  St (a72.add 3) (.int .u64 (IntKind.u64.wrap (n68 + 1))) w10 fun w11 =>
  Join (fun vs w12 => ∃ (p12 : Option Addr) (l12 c12 : Nat), vs = [.slice p12 l12 c12] ∧
  R (.tuple #[.pointer (some ⟨k28, 0, none⟩), .slice p12 l12 c12, .int .i64 0]) w12) fun J =>
  LoopP (fun I => I [.slice none 0 0] w11) fun K vs_1 w13 => ∃ (p12_1 : Option Addr) (l12_1 c12_1 : Nat), vs_1 = [.slice p12_1 l12_1 c12_1] ∧
  ∃ a77 : Addr, (some ⟨k28, 0, none⟩) = some a77 ∧
  ∃ n79 : Int, w13.cell? (a77.add 1) = some (.int .i64 n79) ∧
  ((decide ((l12_1 : Int) < n79)) = true →
  ∃ a84 : Addr, (some ⟨k28, 0, none⟩) = some a84 ∧
  ∃ n86 : Int, w13.cell? (a84.add 3) = some (.int .u64 n86) ∧
  Calls Tryz.prog 45 #[.pointer (some ⟨k28, 0, none⟩), .int .u64 n86] w13 fun e_6 w14 => ∃ n87_0_0 : Int, ∃ n87_0_1 : Int, ∃ (p87_0_2 : Option Addr) (l87_0_2 c87_0_2 : Nat), ∃ b87_1 : Bool, e_6 = .returned (.tuple #[.agg #[.int .u64 n87_0_0, .int .i64 n87_0_1, .slice p87_0_2 l87_0_2 c87_0_2], .bool b87_1]) ∧
  Alloc #[.int .u64 0, .int .i64 0, .slice none 0 0] 95 w14 fun k13 w15 =>
  St ⟨k13, 0, none⟩ (.int .u64 n87_0_0) w15 fun w16 =>
  St ⟨k13, 1, none⟩ (.int .i64 n87_0_1) w16 fun w17 =>
  St ⟨k13, 2, none⟩ (.slice p87_0_2 l87_0_2 c87_0_2) w17 fun w18 =>
  ((!b87_1) = true →
  J [.slice p12_1 l12_1 c12_1] w18) ∧
  ((!b87_1) = false →
  ∃ n93_0 : Int, ∃ n93_1 : Int, ∃ (p93_2 : Option Addr) (l93_2 c93_2 : Nat), (w18.cell? ⟨k13, 0, none⟩ = some (.int .u64 n93_0) ∧ w18.cell? ⟨k13, 1, none⟩ = some (.int .i64 n93_1) ∧ w18.cell? ⟨k13, 2, none⟩ = some (.slice p93_2 l93_2 c93_2)) ∧
  Alloc #[.int .u64 n93_0, .int .i64 n93_1, .slice p93_2 l93_2 c93_2] 95 w18 fun k94 w19 =>
  ∃ (p95 : Option Addr) (l95 c95 : Nat), ∃ w20, (builtin .append #[35, 35] 35 #[false, false] #[.slice p12_1 l12_1 c12_1, .slice (some ⟨k94, 0, none⟩) 1 1]).run Tryz.prog w19 = .ok (.value (.slice p95 l95 c95)) w20 ∧
  ∃ a97 : Addr, (some ⟨k28, 0, none⟩) = some a97 ∧
  ∃ n99 : Int, w20.cell? (a97.add 3) = some (.int .u64 n99) ∧
  ∃ a101 : Addr, (some ⟨k28, 0, none⟩) = some a101 ∧
  St (a101.add 3) (.int .u64 (IntKind.u64.wrap (n99 + 1))) w20 fun w21 =>
  K [.slice p95 l95 c95] w21)) ∧
  ((decide ((l12_1 : Int) < n79)) = false →
  J [.slice p12_1 l12_1 c12_1] w13))))))
theorem ring_Open_eq (p0 : Option Addr) (w : World) (R : Value → World → Prop) : ring_Open p0 w R = fnP Tryz.prog Tryz.f12 (.s .o (.s .o (.s .o (.s .o (.s .o (.s .o (.s .o (.s .o (.s .o (.s .o (.j [(12, .one .slice)] (.b (.l [(12, .one .slice)] .o)) .o))))))))))) [.pointer p0] w R := by kernel_rfl
theorem ring_Open_calls {p0 : Option Addr} {w : World} {R : Value → World → Prop} (h : ring_Open p0 w R) : Calls Tryz.prog 12 #[.pointer p0] w fun e w1 => ∃ v, e = .returned v ∧ R v w1 := fnP_calls callable Tryz.func12 (ring_Open_eq p0 w R ▸ h)

/-- revetment/revetmentlaw13.full -/
def revetmentlaw13_full (s0 : ByteArray) (w : World) (R : Value → World → Prop) : Prop :=
  Calls Tryz.prog 33 #[] w fun e w1 => ∃ s4 : ByteArray, e = .returned (.string s4) ∧
  ((s0.size + s4.size : Nat) : Int) ≤ 9223372036854775807 ∧
  ∃ s6 : ByteArray, ∃ w2, (Instr.sliceAt 9 (.string (s0 ++ s4)) none (some (.int .i64 64)) none).run Tryz.prog w1 = .ok (.string s6) w2 ∧
  R (.string s6) w2
theorem revetmentlaw13_full_eq (s0 : ByteArray) (w : World) (R : Value → World → Prop) : revetmentlaw13_full s0 w R = fnP Tryz.prog Tryz.f17 .o [.string s0] w R := by kernel_rfl
theorem revetmentlaw13_full_calls {s0 : ByteArray} {w : World} {R : Value → World → Prop} (h : revetmentlaw13_full s0 w R) : Calls Tryz.prog 17 #[.string s0] w fun e w1 => ∃ v, e = .returned v ∧ R v w1 := fnP_calls callable Tryz.func17 (revetmentlaw13_full_eq s0 w R ▸ h)

/-- revetment/revetmentlaw13.same -/
def revetmentlaw13_same (p0 : Option Addr) (l0 c0 : Nat) (p1 : Option Addr) (l1 c1 : Nat) (w : World) (R : Value → World → Prop) : Prop :=
  (((l0 : Int) != (l1 : Int)) = true →
  R (.bool false) w) ∧
  (((l0 : Int) != (l1 : Int)) = false →
  LoopP (fun I => I [.int .i64 0] w) fun K vs w1 => ∃ n5 : Int, vs = [.int .i64 n5] ∧
  ((decide (n5 < (l0 : Int))) = true →
  ∃ D : World → Prop, D w1.drew ∧
  ∃ a19 : Addr, p0 = some a19 ∧ (0 : Int) ≤ n5 ∧ n5 < (l0 : Int) ∧
  ∃ n21 : Int, (∀ w, D w → w.cell? (Addr.add a19 (n5.toNat * 3)) = some (.int .u64 n21)) ∧
  ∃ a24 : Addr, p0 = some a24 ∧ (0 : Int) ≤ n5 ∧ n5 < (l0 : Int) ∧
  ∃ n26 : Int, (∀ w, D w → w.cell? (Addr.add (Addr.add a24 (n5.toNat * 3)) 1) = some (.int .i64 n26)) ∧
  ∃ a29 : Addr, p0 = some a29 ∧ (0 : Int) ≤ n5 ∧ n5 < (l0 : Int) ∧
  ∃ (p31 : Option Addr) (l31 c31 : Nat), (∀ w, D w → w.cell? (Addr.add (Addr.add a29 (n5.toNat * 3)) 2) = some (.slice p31 l31 c31)) ∧
  Calls Tryz.prog 26 #[.slice p31 l31 c31] w1.drew fun e w2 => ∃ (p32 : Option Addr) (l32 c32 : Nat), e = .returned (.slice p32 l32 c32) ∧
  D w2 ∧
  ∃ a36 : Addr, p1 = some a36 ∧ (0 : Int) ≤ n5 ∧ n5 < (l1 : Int) ∧
  ∃ n37_0 : Int, ∃ n37_1 : Int, ∃ (p37_2 : Option Addr) (l37_2 c37_2 : Nat), (∀ w, D w → w.cell? (Addr.add a36 (n5.toNat * 3)) = some (.int .u64 n37_0) ∧ w.cell? (Addr.add (Addr.add a36 (n5.toNat * 3)) 1) = some (.int .i64 n37_1) ∧ w.cell? (Addr.add (Addr.add a36 (n5.toNat * 3)) 2) = some (.slice p37_2 l37_2 c37_2)) ∧
  Calls Tryz.prog 58 #[.agg #[.int .u64 n21, .int .i64 n26, .slice p32 l32 c32], .agg #[.int .u64 n37_0, .int .i64 n37_1, .slice p37_2 l37_2 c37_2]] w2 fun e_1 w3 => ∃ b38 : Bool, e_1 = .returned (.bool b38) ∧
  D w3 ∧
  ((!b38) = true →
  R (.bool false) w3) ∧
  ((!b38) = false →
  K [.int .i64 (IntKind.i64.wrap (n5 + 1))] w3)) ∧
  ((decide (n5 < (l0 : Int))) = false →
  R (.bool true) w1))
theorem revetmentlaw13_same_eq (p0 : Option Addr) (l0 c0 : Nat) (p1 : Option Addr) (l1 c1 : Nat) (w : World) (R : Value → World → Prop) : revetmentlaw13_same p0 l0 c0 p1 l1 c1 w R = fnP Tryz.prog Tryz.f22 (.s .o (.s .o (.s (.s .o (.b (.l [(5, .one (.int .i64))] .o))) .o))) [.slice p0 l0 c0, .slice p1 l1 c1] w R := by kernel_rfl
theorem revetmentlaw13_same_calls {p0 : Option Addr} {l0 c0 : Nat} {p1 : Option Addr} {l1 c1 : Nat} {w : World} {R : Value → World → Prop} (h : revetmentlaw13_same p0 l0 c0 p1 l1 c1 w R) : Calls Tryz.prog 22 #[.slice p0 l0 c0, .slice p1 l1 c1] w fun e w1 => ∃ v, e = .returned v ∧ R v w1 := fnP_calls callable Tryz.func22 (revetmentlaw13_same_eq p0 l0 c0 p1 l1 c1 w R ▸ h)

/-- revetment/revetmentlaw13.some -/
def revetmentlaw13_some (p0 : Option Addr) (l0 c0 : Nat) (w : World) (R : Value → World → Prop) : Prop :=
  Alloc #[] 71 w fun k5 w1 =>
  LoopP (fun I => I [.slice (some ⟨k5, 0, none⟩) 0 0, .int .i64 0] w1) fun K vs w2 => ∃ (p3 : Option Addr) (l3 c3 : Nat), ∃ n4 : Int, vs = [.slice p3 l3 c3, .int .i64 n4] ∧
  ((decide (n4 < (l0 : Int))) = true →
  ((decide (n4 < 8)) = true →
  ∃ a22 : Addr, p0 = some a22 ∧ (0 : Int) ≤ n4 ∧ n4 < (l0 : Int) ∧
  ∃ s23 : ByteArray, w2.cell? (Addr.add a22 (n4.toNat * 1)) = some (.string s23) ∧
  Calls Tryz.prog 17 #[.string s23] w2 fun e w3 => ∃ s24 : ByteArray, e = .returned (.string s24) ∧
  Alloc #[.int .i64 n4, .int .i64 (Int.tmod n4 4), .string s24] 71 w3 fun k26 w4 =>
  ∃ (p27 : Option Addr) (l27 c27 : Nat), ∃ w5, (builtin .append #[43, 43] 43 #[false, false] #[.slice p3 l3 c3, .slice (some ⟨k26, 0, none⟩) 1 1]).run Tryz.prog w4 = .ok (.value (.slice p27 l27 c27)) w5 ∧
  K [.slice p27 l27 c27, .int .i64 (IntKind.i64.wrap (n4 + 1))] w5) ∧
  ((decide (n4 < 8)) = false →
  R (.slice p3 l3 c3) w2)) ∧
  ((decide (n4 < (l0 : Int))) = false →
  R (.slice p3 l3 c3) w2)
theorem revetmentlaw13_some_eq (p0 : Option Addr) (l0 c0 : Nat) (w : World) (R : Value → World → Prop) : revetmentlaw13_some p0 l0 c0 w R = fnP Tryz.prog Tryz.f23 (.s .o (.s .o (.s (.s .o (.b (.l [(3, .one .slice), (4, .one (.int .i64))] .o))) .o))) [.slice p0 l0 c0] w R := by kernel_rfl
theorem revetmentlaw13_some_calls {p0 : Option Addr} {l0 c0 : Nat} {w : World} {R : Value → World → Prop} (h : revetmentlaw13_some p0 l0 c0 w R) : Calls Tryz.prog 23 #[.slice p0 l0 c0] w fun e w1 => ∃ v, e = .returned v ∧ R v w1 := fnP_calls callable Tryz.func23 (revetmentlaw13_some_eq p0 l0 c0 w R ▸ h)

/-- (*revetment/ring.Ring).Append -/
def ring_Ring_Append (p0 : Option Addr) (n1 : Int) (p2 : Option Addr) (l2 c2 : Nat) (w : World) (R : Value → World → Prop) : Prop :=
  Calls Tryz.prog 29 #[.pointer p0] w fun e w1 => ∃ n18 : Int, e = .returned (.int .i64 n18) ∧
  ((decide (n18 < 1)) = true →
  R (.tuple #[.int .u64 0, .int .i64 130]) w1) ∧
  ((decide (n18 < 1)) = false →
  ∃ a21 : Addr, p0 = some a21 ∧
  ∃ n23 : Int, w1.cell? (a21.add 3) = some (.int .u64 n23) ∧
  Calls Tryz.prog 59 #[.agg #[.int .u64 n23, .int .i64 n1, .slice p2 l2 c2]] w1 fun e_1 w2 => ∃ s29_0 : ByteArray, ∃ (p29_1 : Option Addr) (l29_1 c29_1 : Nat), ∃ n29_2 : Int, e_1 = .returned (.tuple #[.string s29_0, .slice p29_1 l29_1 c29_1, .int .i64 n29_2]) ∧
  ((n29_2 != 0) = true →
  R (.tuple #[.int .u64 0, .int .i64 1]) w2) ∧
  ((n29_2 != 0) = false →
  Calls Tryz.prog 60 #[.pointer p0, .int .u64 n23] w2 fun e_2 w3 => ∃ n37 : Int, e_2 = .returned (.int .i64 n37) ∧
  LoopP (fun I => I [.slice none 0 0, .int .i64 0] w3) fun K vs w4 => ∃ (p13 : Option Addr) (l13 c13 : Nat), ∃ n40 : Int, vs = [.slice p13 l13 c13, .int .i64 n40] ∧
  ((decide (n40 < (l29_1 : Int))) = true →
  ∃ a43 : Addr, p29_1 = some a43 ∧ (0 : Int) ≤ n40 ∧ n40 < (l29_1 : Int) ∧
  ∃ s44 : ByteArray, w4.cell? (Addr.add a43 (n40.toNat * 1)) = some (.string s44) ∧
  ∃ a47 : Addr, p0 = some a47 ∧
  ∃ p49 : Option Addr, w4.cell? a47 = some (.pointer p49) ∧
  Calls Tryz.prog 35 #[.pointer p49, .int .i64 (IntKind.i64.wrap ((IntKind.i64.wrap (n37 + 1)) + n40)), .string s44] w4 fun e_3 w5 => ∃ v55 : Value, e_3 = .returned v55 ∧
  LitS Tryz.prog 78 1 [(0, v55)] w5 fun k56 w6 =>
  ∃ (p57 : Option Addr) (l57 c57 : Nat), ∃ w7, (builtin .append #[78, 78] 78 #[false, false] #[.slice p13 l13 c13, .slice (some ⟨k56, 0, none⟩) 1 1]).run Tryz.prog w6 = .ok (.value (.slice p57 l57 c57)) w7 ∧
  K [.slice p57 l57 c57, .int .i64 (IntKind.i64.wrap (n40 + 1))] w7) ∧
  ((decide (n40 < (l29_1 : Int))) = false →
  ∃ D : World → Prop, D w4.drew ∧
  ∃ a61 : Addr, p0 = some a61 ∧
  ∃ p63 : Option Addr, (∀ w, D w → w.cell? a61 = some (.pointer p63)) ∧
  ∃ a66 : Addr, p0 = some a66 ∧
  ∃ p68 : Option Addr, (∀ w, D w → w.cell? a66 = some (.pointer p68)) ∧
  Calls Tryz.prog 35 #[.pointer p68, .int .i64 n37, .string s29_0] w4.drew fun e_4 w8 => ∃ v71 : Value, e_4 = .returned v71 ∧
  D w8 ∧
  ∃ a73 : Addr, p0 = some a73 ∧
  ∃ p75 : Option Addr, (∀ w, D w → w.cell? a73 = some (.pointer p75)) ∧
  LitS Tryz.prog 78 3 [(0, .func (.func 39) #[.pointer p63] #[]), (1, v71), (2, .func (.func 39) #[.pointer p75] #[])] w8 fun k77 w9 =>
  D w9 ∧
  ∃ (p78 : Option Addr) (l78 c78 : Nat), ∃ w10, (builtin .append #[78, 78] 78 #[false, false] #[.slice p13 l13 c13, .slice (some ⟨k77, 0, none⟩) 3 3]).run Tryz.prog w9 = .ok (.value (.slice p78 l78 c78)) w10 ∧
  D w10 ∧
  Calls Tryz.prog 37 #[.slice p78 l78 c78] w10 fun e_5 w11 => ∃ n79 : Int, e_5 = .returned (.int .i64 n79) ∧
  D w11 ∧
  ((n79 != 0) = true →
  R (.tuple #[.int .u64 0, .int .i64 n79]) w11) ∧
  ((n79 != 0) = false →
  ∃ a84 : Addr, p0 = some a84 ∧
  ∃ n86 : Int, w11.cell? (a84.add 3) = some (.int .u64 n86) ∧
  ∃ a88 : Addr, p0 = some a88 ∧
  St (a88.add 3) (.int .u64 (IntKind.u64.wrap (n86 + 1))) w11 fun w12 =>
  R (.tuple #[.int .u64 n23, .int .i64 0]) w12))))
theorem ring_Ring_Append_eq (p0 : Option Addr) (n1 : Int) (p2 : Option Addr) (l2 c2 : Nat) (w : World) (R : Value → World → Prop) : ring_Ring_Append p0 n1 p2 l2 c2 w R = fnP Tryz.prog Tryz.f24 (.s .o (.s .o (.s .o (.s .o (.s .o (.s .o (.s .o (.s (.s .o (.b (.l [(13, .one .slice), (40, .one (.int .i64))] .o))) .o)))))))) [.pointer p0, .int .i64 n1, .slice p2 l2 c2] w R := by kernel_rfl
theorem ring_Ring_Append_calls {p0 : Option Addr} {n1 : Int} {p2 : Option Addr} {l2 c2 : Nat} {w : World} {R : Value → World → Prop} (h : ring_Ring_Append p0 n1 p2 l2 c2 w R) : Calls Tryz.prog 24 #[.pointer p0, .int .i64 n1, .slice p2 l2 c2] w fun e w1 => ∃ v, e = .returned v ∧ R v w1 := fnP_calls callable Tryz.func24 (ring_Ring_Append_eq p0 n1 p2 l2 c2 w R ▸ h)

/-- revetment/revetmentlaw13.theirs -/
def revetmentlaw13_theirs (p0 : Option Addr) (l0 c0 : Nat) (w : World) (R : Value → World → Prop) : Prop :=
  Alloc #[] 115 w fun k5 w1 =>
  LoopP (fun I => I [.slice (some ⟨k5, 0, none⟩) 0 0, .int .i64 0] w1) fun K vs w2 => ∃ (p3 : Option Addr) (l3 c3 : Nat), ∃ n4 : Int, vs = [.slice p3 l3 c3, .int .i64 n4] ∧
  ((decide (n4 < (l0 : Int))) = true →
  ∃ a15 : Addr, p0 = some a15 ∧ (0 : Int) ≤ n4 ∧ n4 < (l0 : Int) ∧
  ∃ n16_0 : Int, ∃ n16_1 : Int, ∃ s16_2 : ByteArray, (w2.cell? (Addr.add a15 (n4.toNat * 3)) = some (.int .i64 n16_0) ∧ w2.cell? (Addr.add (Addr.add a15 (n4.toNat * 3)) 1) = some (.int .i64 n16_1) ∧ w2.cell? (Addr.add (Addr.add a15 (n4.toNat * 3)) 2) = some (.string s16_2)) ∧
  Alloc #[.int .i64 n16_0, .int .i64 n16_1, .string s16_2] 115 w2 fun k17 w3 =>
  ∃ (p18 : Option Addr) (l18 c18 : Nat), ∃ w4, (builtin .append #[61, 61] 61 #[false, false] #[.slice p3 l3 c3, .slice (some ⟨k17, 0, none⟩) 1 1]).run Tryz.prog w3 = .ok (.value (.slice p18 l18 c18)) w4 ∧
  K [.slice p18 l18 c18, .int .i64 (IntKind.i64.wrap (n4 + 1))] w4) ∧
  ((decide (n4 < (l0 : Int))) = false →
  R (.slice p3 l3 c3) w2)
theorem revetmentlaw13_theirs_eq (p0 : Option Addr) (l0 c0 : Nat) (w : World) (R : Value → World → Prop) : revetmentlaw13_theirs p0 l0 c0 w R = fnP Tryz.prog Tryz.f26 (.s .o (.s .o (.s (.s .o (.b (.l [(3, .one .slice), (4, .one (.int .i64))] .o))) .o))) [.slice p0 l0 c0] w R := by kernel_rfl
theorem revetmentlaw13_theirs_calls {p0 : Option Addr} {l0 c0 : Nat} {w : World} {R : Value → World → Prop} (h : revetmentlaw13_theirs p0 l0 c0 w R) : Calls Tryz.prog 26 #[.slice p0 l0 c0] w fun e w1 => ∃ v, e = .returned v ∧ R v w1 := fnP_calls callable Tryz.func26 (revetmentlaw13_theirs_eq p0 l0 c0 w R ▸ h)

/-- (*revetment/ring.Ring).Trim -/
def ring_Ring_Trim (p0 : Option Addr) (n1 : Int) (w : World) (R : Value → World → Prop) : Prop :=
  ∃ D : World → Prop, D w.drew ∧
  ∃ a8 : Addr, p0 = some a8 ∧
  ∃ n10 : Int, (∀ w, D w → w.cell? (a8.add 2) = some (.int .u64 n10)) ∧
  ∃ a13 : Addr, p0 = some a13 ∧
  ∃ n15 : Int, (∀ w, D w → w.cell? (a13.add 3) = some (.int .u64 n15)) ∧
  ∃ a17 : Addr, p0 = some a17 ∧
  ∃ n19 : Int, (∀ w, D w → w.cell? (a17.add 2) = some (.int .u64 n19)) ∧
  ((decide ((IntKind.u64.wrap (n1 - n10)) ≥ (IntKind.u64.wrap (n15 - n19)))) = true →
  R (.int .i64 1) w.drew) ∧
  ((decide ((IntKind.u64.wrap (n1 - n10)) ≥ (IntKind.u64.wrap (n15 - n19)))) = false →
  ∃ D_1 : World → Prop, D_1 w.drew.drew ∧
  ∃ a23 : Addr, p0 = some a23 ∧
  ∃ p25 : Option Addr, (∀ w, D_1 w → w.cell? a23 = some (.pointer p25)) ∧
  Calls Tryz.prog 38 #[.int .u64 n1] w.drew.drew fun e w1 => ∃ s27 : ByteArray, e = .returned (.string s27) ∧
  D_1 w1 ∧
  Calls Tryz.prog 35 #[.pointer p25, .int .i64 3, .string s27] w1 fun e_1 w2 => ∃ v28 : Value, e_1 = .returned v28 ∧
  D_1 w2 ∧
  ∃ a30 : Addr, p0 = some a30 ∧
  ∃ p32 : Option Addr, (∀ w, D_1 w → w.cell? a30 = some (.pointer p32)) ∧
  LitS Tryz.prog 78 2 [(0, v28), (1, .func (.func 39) #[.pointer p32] #[])] w2 fun k34 w3 =>
  D_1 w3 ∧
  Calls Tryz.prog 37 #[.slice (some ⟨k34, 0, none⟩) 2 2] w3 fun e_2 w4 => ∃ n35 : Int, e_2 = .returned (.int .i64 n35) ∧
  D_1 w4 ∧
  ((n35 == 0) = true →
  ∃ a40 : Addr, p0 = some a40 ∧
  St (a40.add 2) (.int .u64 n1) w4 fun w5 =>
  R (.int .i64 n35) w5) ∧
  ((n35 == 0) = false →
  R (.int .i64 n35) w4))
theorem ring_Ring_Trim_eq (p0 : Option Addr) (n1 : Int) (w : World) (R : Value → World → Prop) : ring_Ring_Trim p0 n1 w R = fnP Tryz.prog Tryz.f27 .o [.pointer p0, .int .u64 n1] w R := by kernel_rfl
theorem ring_Ring_Trim_calls {p0 : Option Addr} {n1 : Int} {w : World} {R : Value → World → Prop} (h : ring_Ring_Trim p0 n1 w R) : Calls Tryz.prog 27 #[.pointer p0, .int .u64 n1] w fun e w1 => ∃ v, e = .returned v ∧ R v w1 := fnP_calls callable Tryz.func27 (ring_Ring_Trim_eq p0 n1 w R ▸ h)

/-- (*revetment/ring.Ring).Left -/
def ring_Ring_Left (p0 : Option Addr) (w : World) (R : Value → World → Prop) : Prop :=
  ∃ D : World → Prop, D w.drew ∧
  ∃ a4 : Addr, p0 = some a4 ∧
  ∃ n6 : Int, (∀ w, D w → w.cell? (a4.add 1) = some (.int .i64 n6)) ∧
  ∃ a8 : Addr, p0 = some a8 ∧
  ∃ n10 : Int, (∀ w, D w → w.cell? (a8.add 3) = some (.int .u64 n10)) ∧
  ∃ a12 : Addr, p0 = some a12 ∧
  ∃ n14 : Int, (∀ w, D w → w.cell? (a12.add 2) = some (.int .u64 n14)) ∧
  R (.int .i64 (IntKind.i64.wrap (n6 - (IntKind.i64.wrap (IntKind.u64.wrap ((IntKind.u64.wrap (n10 - n14)) - 1)))))) w.drew
theorem ring_Ring_Left_eq (p0 : Option Addr) (w : World) (R : Value → World → Prop) : ring_Ring_Left p0 w R = fnP Tryz.prog Tryz.f29 .o [.pointer p0] w R := by kernel_rfl
theorem ring_Ring_Left_calls {p0 : Option Addr} {w : World} {R : Value → World → Prop} (h : ring_Ring_Left p0 w R) : Calls Tryz.prog 29 #[.pointer p0] w fun e w1 => ∃ v, e = .returned v ∧ R v w1 := fnP_calls callable Tryz.func29 (ring_Ring_Left_eq p0 w R ▸ h)

/-- (*revetment/ring.Ring).Next -/
def ring_Ring_Next (p0 : Option Addr) (w : World) (R : Value → World → Prop) : Prop :=
  ∃ a4 : Addr, p0 = some a4 ∧
  ∃ n6 : Int, w.cell? (a4.add 3) = some (.int .u64 n6) ∧
  R (.int .u64 n6) w
theorem ring_Ring_Next_eq (p0 : Option Addr) (w : World) (R : Value → World → Prop) : ring_Ring_Next p0 w R = fnP Tryz.prog Tryz.f31 .o [.pointer p0] w R := by kernel_rfl
theorem ring_Ring_Next_calls {p0 : Option Addr} {w : World} {R : Value → World → Prop} (h : ring_Ring_Next p0 w R) : Calls Tryz.prog 31 #[.pointer p0] w fun e w1 => ∃ v, e = .returned v ∧ R v w1 := fnP_calls callable Tryz.func31 (ring_Ring_Next_eq p0 w R ▸ h)

/-- revetment/revetmentlaw13.heavy -/
def revetmentlaw13_heavy (p0 : Option Addr) (l0 c0 : Nat) (w : World) (R : Value → World → Prop) : Prop :=
  ((decide ((l0 : Int) > 20)) = true →
  R (.bool true) w) ∧
  ((decide ((l0 : Int) > 20)) = false →
  LoopP (fun I => I [.int .i64 0] w) fun K vs w1 => ∃ n3 : Int, vs = [.int .i64 n3] ∧
  ((decide (n3 < (l0 : Int))) = true →
  ∃ a15 : Addr, p0 = some a15 ∧ (0 : Int) ≤ n3 ∧ n3 < (l0 : Int) ∧
  ∃ s16 : ByteArray, w1.cell? (Addr.add a15 (n3.toNat * 1)) = some (.string s16) ∧
  ((decide ((s16.size : Int) > 100)) = true →
  R (.bool true) w1) ∧
  ((decide ((s16.size : Int) > 100)) = false →
  K [.int .i64 (IntKind.i64.wrap (n3 + 1))] w1)) ∧
  ((decide (n3 < (l0 : Int))) = false →
  R (.bool false) w1))
theorem revetmentlaw13_heavy_eq (p0 : Option Addr) (l0 c0 : Nat) (w : World) (R : Value → World → Prop) : revetmentlaw13_heavy p0 l0 c0 w R = fnP Tryz.prog Tryz.f32 (.s .o (.s .o (.s (.s .o (.b (.l [(3, .one (.int .i64))] .o))) .o))) [.slice p0 l0 c0] w R := by kernel_rfl
theorem revetmentlaw13_heavy_calls {p0 : Option Addr} {l0 c0 : Nat} {w : World} {R : Value → World → Prop} (h : revetmentlaw13_heavy p0 l0 c0 w R) : Calls Tryz.prog 32 #[.slice p0 l0 c0] w fun e w1 => ∃ v, e = .returned v ∧ R v w1 := fnP_calls callable Tryz.func32 (revetmentlaw13_heavy_eq p0 l0 c0 w R ▸ h)

/-- revetment/ring.written -/
def ring_written (p0 : Option Addr) (n1 : Int) (s2 : ByteArray) (w : World) (R : Value → World → Prop) : Prop :=
  Alloc #[.pointer p0] 26 w fun k3 w1 =>
  Alloc #[.int .i64 n1] 3 w1 fun k4 w2 =>
  Alloc #[.string s2] 9 w2 fun k5 w3 =>
  R (.func (.func 63) #[] #[.pointer (some ⟨k3, 0, none⟩), .pointer (some ⟨k4, 0, none⟩), .pointer (some ⟨k5, 0, none⟩)]) w3
theorem ring_written_eq (p0 : Option Addr) (n1 : Int) (s2 : ByteArray) (w : World) (R : Value → World → Prop) : ring_written p0 n1 s2 w R = fnP Tryz.prog Tryz.f35 .o [.pointer p0, .int .i64 n1, .string s2] w R := by kernel_rfl
theorem ring_written_calls {p0 : Option Addr} {n1 : Int} {s2 : ByteArray} {w : World} {R : Value → World → Prop} (h : ring_written p0 n1 s2 w R) : Calls Tryz.prog 35 #[.pointer p0, .int .i64 n1, .string s2] w fun e w1 => ∃ v, e = .returned v ∧ R v w1 := fnP_calls callable Tryz.func35 (ring_written_eq p0 n1 s2 w R ▸ h)

/-- revetment/ring.steps -/
def ring_steps (p0 : Option Addr) (l0 c0 : Nat) (w : World) (R : Value → World → Prop) : Prop :=
  LoopP (fun I => I [.int .i64 0] w) fun K vs w1 => ∃ n8 : Int, vs = [.int .i64 n8] ∧
  ((decide (n8 < (l0 : Int))) = true →
  ∃ a10 : Addr, p0 = some a10 ∧ (0 : Int) ≤ n8 ∧ n8 < (l0 : Int) ∧
  ∃ v11 : Value, w1.cell? (Addr.add a10 (n8.toNat * 1)) = some (v11) ∧
  CallF Tryz.prog v11 [] w1 fun e w2 => ∃ n13 : Int, e = .returned (.int .i64 n13) ∧
  ((n13 != 0) = true →
  R (.int .i64 n13) w2) ∧
  ((n13 != 0) = false →
  K [.int .i64 (IntKind.i64.wrap (n8 + 1))] w2)) ∧
  ((decide (n8 < (l0 : Int))) = false →
  R (.int .i64 0) w1)
theorem ring_steps_eq (p0 : Option Addr) (l0 c0 : Nat) (w : World) (R : Value → World → Prop) : ring_steps p0 l0 c0 w R = fnP Tryz.prog Tryz.f37 (.s .o (.s (.s .o (.b (.l [(8, .one (.int .i64))] .o))) .o)) [.slice p0 l0 c0] w R := by kernel_rfl
theorem ring_steps_calls {p0 : Option Addr} {l0 c0 : Nat} {w : World} {R : Value → World → Prop} (h : ring_steps p0 l0 c0 w R) : Calls Tryz.prog 37 #[.slice p0 l0 c0] w fun e w1 => ∃ v, e = .returned v ∧ R v w1 := fnP_calls callable Tryz.func37 (ring_steps_eq p0 l0 c0 w R ▸ h)

/-- revetment/ring.mark -/
def ring_mark (n0 : Int) (w : World) (R : Value → World → Prop) : Prop :=
  Alloc #[.int .u64 n0] 57 w fun k9 w1 =>
  Alloc #[.int .i64 8] 3 w1 fun k10 w2 =>
  Calls Tryz.prog 70 #[.slice (some ⟨k9, 0, none⟩) 1 1, .slice (some ⟨k10, 0, none⟩) 1 1] w2 fun e w3 => ∃ s11_0 : ByteArray, ∃ n11_1 : Int, e = .returned (.tuple #[.string s11_0, .int .i64 n11_1]) ∧
  (((ByteArray.mk #[82, 86, 84, 77]).size + s11_0.size : Nat) : Int) ≤ 9223372036854775807 ∧
  Calls Tryz.prog 71 #[.string ((ByteArray.mk #[82, 86, 84, 77]) ++ s11_0), .int .i64 64] w3 fun e_1 w4 => ∃ s17_0 : ByteArray, ∃ b17_1 : Bool, e_1 = .returned (.tuple #[.string s17_0, .bool b17_1]) ∧
  R (.string s17_0) w4
theorem ring_mark_eq (n0 : Int) (w : World) (R : Value → World → Prop) : ring_mark n0 w R = fnP Tryz.prog Tryz.f38 .o [.int .u64 n0] w R := by kernel_rfl
theorem ring_mark_calls {n0 : Int} {w : World} {R : Value → World → Prop} (h : ring_mark n0 w R) : Calls Tryz.prog 38 #[.int .u64 n0] w fun e w1 => ∃ v, e = .returned v ∧ R v w1 := fnP_calls callable Tryz.func38 (ring_mark_eq n0 w R ▸ h)

/-- revetment/crc.Open -/
def crc_Open (s0 : ByteArray) (w : World) (R : Value → World → Prop) : Prop :=
  ∃ D : World → Prop, D w.drew ∧
  ((decide ((IntKind.i64.wrap ((s0.size : Int) - 4)) < 0)) = true →
  R (.tuple #[.string (ByteArray.mk #[]), .bool false]) w.drew) ∧
  ((decide ((IntKind.i64.wrap ((s0.size : Int) - 4)) < 0)) = false →
  ∃ s13 : ByteArray, (∀ w, D w → (Instr.sliceAt 9 (.string s0) none (some (.int .i64 (IntKind.i64.wrap ((s0.size : Int) - 4)))) none).run Tryz.prog w = .ok (.string s13) w) ∧
  Calls Tryz.prog 78 #[.string s13] w.drew fun e w1 => ∃ n14 : Int, e = .returned (.int .u32 n14) ∧
  D w1 ∧
  Calls Tryz.prog 77 #[.int .u32 n14] w1 fun e_1 w2 => ∃ (p15 : Option Addr) (l15 c15 : Nat), e_1 = .returned (.slice p15 l15 c15) ∧
  D w2 ∧
  ∃ s16 : ByteArray, (∀ x0, x0 = w2 → (convert 44 9 (.slice p15 l15 c15)).run Tryz.prog x0 = .ok (.string s16) x0) ∧
  ∃ s19 : ByteArray, (∀ w, D w → (Instr.sliceAt 9 (.string s0) (some (.int .i64 (IntKind.i64.wrap ((s0.size : Int) - 4)))) none none).run Tryz.prog w = .ok (.string s19) w) ∧
  ((!(s16.toList == s19.toList)) = true →
  R (.tuple #[.string (ByteArray.mk #[]), .bool false]) w2) ∧
  ((!(s16.toList == s19.toList)) = false →
  ∃ s24 : ByteArray, ∃ w3, (Instr.sliceAt 9 (.string s0) none (some (.int .i64 (IntKind.i64.wrap ((s0.size : Int) - 4)))) none).run Tryz.prog w2 = .ok (.string s24) w3 ∧
  R (.tuple #[.string s24, .bool true]) w3))
theorem crc_Open_eq (s0 : ByteArray) (w : World) (R : Value → World → Prop) : crc_Open s0 w R = fnP Tryz.prog Tryz.f43 .o [.string s0] w R := by kernel_rfl
theorem crc_Open_calls {s0 : ByteArray} {w : World} {R : Value → World → Prop} (h : crc_Open s0 w R) : Calls Tryz.prog 43 #[.string s0] w fun e w1 => ∃ v, e = .returned v ∧ R v w1 := fnP_calls callable Tryz.func43 (crc_Open_eq s0 w R ▸ h)

/-- revetment/pack.Decode -/
def pack_Decode (s0 : ByteArray) (p1 : Option Addr) (l1 c1 : Nat) (w : World) (R : Value → World → Prop) : Prop :=
  Alloc #[.string s0] 9 w fun k2 w1 =>
  Calls Tryz.prog 79 #[.slice p1 l1 c1] w1 fun e w2 => ∃ n13_0 : Int, ∃ n13_1 : Int, e = .returned (.tuple #[.int .i64 n13_0, .int .i64 n13_1]) ∧
  ((n13_1 != 0) = true →
  R (.tuple #[.slice none 0 0, .int .i64 n13_1]) w2) ∧
  ((n13_1 != 0) = false →
  ∃ s21 : ByteArray, w2.cell? ⟨k2, 0, none⟩ = some (.string s21) ∧
  (((s21.size : Int) != n13_0) = true →
  R (.tuple #[.slice none 0 0, .int .i64 31]) w2) ∧
  (((s21.size : Int) != n13_0) = false →
  ∃ (p27 : Option Addr) (l27 c27 : Nat), ∃ w3, (Instr.makeSlice 90 (.int .i64 (l1 : Int)) (.int .i64 (l1 : Int))).run Tryz.prog w2 = .ok (.slice p27 l27 c27) w3 ∧
  Alloc #[.slice none 0 0] 90 w3 fun k8 w4 =>
  St ⟨k8, 0, none⟩ (.slice p27 l27 c27) w4 fun w5 =>
  Calls Tryz.prog 80 #[.slice p1 l1 c1] w5 fun e_1 w6 => ∃ v29 : Value, e_1 = .returned v29 ∧
  RangeP Tryz.prog v29 (fun ob l args W Φ => ∃ n30 : Int, ∃ n31 : Int, args = [.int .i64 n30, .int .i64 n31] ∧
  RoundP ob l Φ (fun K X R w7 =>
  ∃ D : World → Prop, D w7.drew ∧
  ∃ (p32 : Option Addr) (l32 c32 : Nat), (∀ w, D w → w.cell? ⟨k8, 0, none⟩ = some (.slice p32 l32 c32)) ∧
  ∃ a34 : Addr, p32 = some a34 ∧ (0 : Int) ≤ n30 ∧ n30 < (l32 : Int) ∧
  ∃ n35 : Int, (∀ w, D w → w.cell? (Addr.add a34 (n30.toNat * 1)) = some (.int .u64 n35)) ∧
  ∃ s36 : ByteArray, (∀ w, D w → w.cell? ⟨k2, 0, none⟩ = some (.string s36)) ∧
  ∃ n37 : Int, (∀ w, D w → (Instr.index 9 (.string s36) (.int .i64 0)).run Tryz.prog w = .ok (.int .u8 n37) w) ∧
  (0 : Int) ≤ n31 ∧
  ∃ a42 : Addr, p32 = some a42 ∧ (0 : Int) ≤ n30 ∧ n30 < (l32 : Int) ∧
  St (Addr.add a42 (n30.toNat * 1)) (.int .u64 (bits2 .or .u64 n35 (IntKind.u64.wrap ((IntKind.u64.wrap n37) * 2 ^ (min n31.toNat 64))))) w7.drew fun w8 =>
  ∃ s43 : ByteArray, w8.cell? ⟨k2, 0, none⟩ = some (.string s43) ∧
  ∃ s44 : ByteArray, ∃ w9, (Instr.sliceAt 9 (.string s43) (some (.int .i64 1)) none none).run Tryz.prog w8 = .ok (.string s44) w9 ∧
  St ⟨k2, 0, none⟩ (.string s44) w9 fun w10 =>
  K w10) W) []
  (fun d w11 =>
  ∃ (p45 : Option Addr) (l45 c45 : Nat), w11.cell? ⟨k8, 0, none⟩ = some (.slice p45 l45 c45) ∧
  w11.heap[d]? = some (.deferred (some [])) ∧
  R (.tuple #[.slice p45 l45 c45, .int .i64 0]) (w11.putObj d (.deferred none)))
  (fun d_1 w12 =>
  w12.heap[d_1]? = some (.deferred (some [])) ∧
  R (.tuple #[.slice none 0 0, .int .i64 0]) (w12.putObj d_1 (.deferred none))) w6))
theorem pack_Decode_eq (s0 : ByteArray) (p1 : Option Addr) (l1 c1 : Nat) (w : World) (R : Value → World → Prop) : pack_Decode s0 p1 l1 c1 w R = fnP Tryz.prog Tryz.f44 (.s .o (.s .o (.s .o (.s .o (.s (.s .o (.b (.rf [(30, .one (.int .i64)), (31, .one (.int .i64))] .o))) .o))))) [.string s0, .slice p1 l1 c1] w R := by kernel_rfl
theorem pack_Decode_calls {s0 : ByteArray} {p1 : Option Addr} {l1 c1 : Nat} {w : World} {R : Value → World → Prop} (h : pack_Decode s0 p1 l1 c1 w R) : Calls Tryz.prog 44 #[.string s0, .slice p1 l1 c1] w fun e w1 => ∃ v, e = .returned v ∧ R v w1 := fnP_calls callable Tryz.func44 (pack_Decode_eq s0 p1 l1 c1 w R ▸ h)

/-- (*revetment/ring.Ring).record -/
def ring_Ring_record (p0 : Option Addr) (n1 : Int) (w : World) (R : Value → World → Prop) : Prop :=
  Alloc #[.int .u64 0, .int .i64 0, .slice none 0 0] 95 w fun k4 w1 =>
  Calls Tryz.prog 60 #[.pointer p0, .int .u64 n1] w1 fun e w2 => ∃ n18 : Int, e = .returned (.int .i64 n18) ∧
  ∃ a21 : Addr, p0 = some a21 ∧
  ∃ p23 : Option Addr, w2.cell? a21 = some (.pointer p23) ∧
  Calls Tryz.prog 42 #[.pointer p23, .int .i64 n18] w2 fun e_1 w3 => ∃ s25_0 : ByteArray, ∃ n25_1 : Int, e_1 = .returned (.tuple #[.string s25_0, .int .i64 n25_1]) ∧
  ((n25_1 != 0) = true →
  St ⟨k4, 0, none⟩ (.int .u64 0) w3 fun w4 =>
  St ⟨k4, 1, none⟩ (.int .i64 0) w4 fun w5 =>
  St ⟨k4, 2, none⟩ (.slice none 0 0) w5 fun w6 =>
  ∃ nr4_0 : Int, ∃ nr4_1 : Int, ∃ (pr4_2 : Option Addr) (lr4_2 cr4_2 : Nat), (w6.cell? ⟨k4, 0, none⟩ = some (.int .u64 nr4_0) ∧ w6.cell? ⟨k4, 1, none⟩ = some (.int .i64 nr4_1) ∧ w6.cell? ⟨k4, 2, none⟩ = some (.slice pr4_2 lr4_2 cr4_2)) ∧
  R (.tuple #[.agg #[.int .u64 nr4_0, .int .i64 nr4_1, .slice pr4_2 lr4_2 cr4_2], .bool false]) w6) ∧
  ((n25_1 != 0) = false →
  Calls Tryz.prog 81 #[.string s25_0] w3 fun e_2 w7 => ∃ n33_0_0 : Int, ∃ n33_0_1 : Int, ∃ (p33_0_2 : Option Addr) (l33_0_2 c33_0_2 : Nat), ∃ n33_1 : Int, ∃ n33_2 : Int, e_2 = .returned (.tuple #[.agg #[.int .u64 n33_0_0, .int .i64 n33_0_1, .slice p33_0_2 l33_0_2 c33_0_2], .int .u32 n33_1, .int .i64 n33_2]) ∧
  Alloc #[.int .u64 0, .int .i64 0, .slice none 0 0] 95 w7 fun k9 w8 =>
  St ⟨k9, 0, none⟩ (.int .u64 n33_0_0) w8 fun w9 =>
  St ⟨k9, 1, none⟩ (.int .i64 n33_0_1) w9 fun w10 =>
  St ⟨k9, 2, none⟩ (.slice p33_0_2 l33_0_2 c33_0_2) w10 fun w11 =>
  ((n33_2 != 0) = true →
  St ⟨k4, 0, none⟩ (.int .u64 0) w11 fun w12 =>
  St ⟨k4, 1, none⟩ (.int .i64 0) w12 fun w13 =>
  St ⟨k4, 2, none⟩ (.slice none 0 0) w13 fun w14 =>
  ∃ nr4_0_1 : Int, ∃ nr4_1_1 : Int, ∃ (pr4_2_1 : Option Addr) (lr4_2_1 cr4_2_1 : Nat), (w14.cell? ⟨k4, 0, none⟩ = some (.int .u64 nr4_0_1) ∧ w14.cell? ⟨k4, 1, none⟩ = some (.int .i64 nr4_1_1) ∧ w14.cell? ⟨k4, 2, none⟩ = some (.slice pr4_2_1 lr4_2_1 cr4_2_1)) ∧
  R (.tuple #[.agg #[.int .u64 nr4_0_1, .int .i64 nr4_1_1, .slice pr4_2_1 lr4_2_1 cr4_2_1], .bool false]) w14) ∧
  ((n33_2 != 0) = false →
  ∃ n41 : Int, w11.cell? ⟨k9, 0, none⟩ = some (.int .u64 n41) ∧
  ((n41 != n1) = true →
  St ⟨k4, 0, none⟩ (.int .u64 0) w11 fun w15 =>
  St ⟨k4, 1, none⟩ (.int .i64 0) w15 fun w16 =>
  St ⟨k4, 2, none⟩ (.slice none 0 0) w16 fun w17 =>
  ∃ nr4_0_2 : Int, ∃ nr4_1_2 : Int, ∃ (pr4_2_2 : Option Addr) (lr4_2_2 cr4_2_2 : Nat), (w17.cell? ⟨k4, 0, none⟩ = some (.int .u64 nr4_0_2) ∧ w17.cell? ⟨k4, 1, none⟩ = some (.int .i64 nr4_1_2) ∧ w17.cell? ⟨k4, 2, none⟩ = some (.slice pr4_2_2 lr4_2_2 cr4_2_2)) ∧
  R (.tuple #[.agg #[.int .u64 nr4_0_2, .int .i64 nr4_1_2, .slice pr4_2_2 lr4_2_2 cr4_2_2], .bool false]) w17) ∧
  ((n41 != n1) = false →
  ∃ (p47 : Option Addr) (l47 c47 : Nat), w11.cell? ⟨k9, 2, none⟩ = some (.slice p47 l47 c47) ∧
  LoopP (fun I => I [.slice none 0 0, .int .i64 0] w11) fun K vs w18 => ∃ (p11 : Option Addr) (l11 c11 : Nat), ∃ n49 : Int, vs = [.slice p11 l11 c11, .int .i64 n49] ∧
  ((decide (n49 < (l47 : Int))) = true →
  ∃ a54 : Addr, p0 = some a54 ∧
  ∃ p56 : Option Addr, w18.cell? a54 = some (.pointer p56) ∧
  Calls Tryz.prog 42 #[.pointer p56, .int .i64 (IntKind.i64.wrap ((IntKind.i64.wrap (n18 + 1)) + n49))] w18 fun e_3 w19 => ∃ s61_0 : ByteArray, ∃ n61_1 : Int, e_3 = .returned (.tuple #[.string s61_0, .int .i64 n61_1]) ∧
  ((n61_1 != 0) = true →
  St ⟨k4, 0, none⟩ (.int .u64 0) w19 fun w20 =>
  St ⟨k4, 1, none⟩ (.int .i64 0) w20 fun w21 =>
  St ⟨k4, 2, none⟩ (.slice none 0 0) w21 fun w22 =>
  ∃ nr4_0_3 : Int, ∃ nr4_1_3 : Int, ∃ (pr4_2_3 : Option Addr) (lr4_2_3 cr4_2_3 : Nat), (w22.cell? ⟨k4, 0, none⟩ = some (.int .u64 nr4_0_3) ∧ w22.cell? ⟨k4, 1, none⟩ = some (.int .i64 nr4_1_3) ∧ w22.cell? ⟨k4, 2, none⟩ = some (.slice pr4_2_3 lr4_2_3 cr4_2_3)) ∧
  R (.tuple #[.agg #[.int .u64 nr4_0_3, .int .i64 nr4_1_3, .slice pr4_2_3 lr4_2_3 cr4_2_3], .bool false]) w22) ∧
  ((n61_1 != 0) = false →
  Alloc #[.string s61_0] 9 w19 fun k69 w23 =>
  ∃ (p70 : Option Addr) (l70 c70 : Nat), ∃ w24, (builtin .append #[42, 42] 42 #[false, false] #[.slice p11 l11 c11, .slice (some ⟨k69, 0, none⟩) 1 1]).run Tryz.prog w23 = .ok (.value (.slice p70 l70 c70)) w24 ∧
  K [.slice p70 l70 c70, .int .i64 (IntKind.i64.wrap (n49 + 1))] w24)) ∧
  ((decide (n49 < (l47 : Int))) = false →
  Calls Tryz.prog 82 #[.string s25_0, .slice p11 l11 c11] w18 fun e_4 w25 => ∃ n75_0_0 : Int, ∃ n75_0_1 : Int, ∃ (p75_0_2 : Option Addr) (l75_0_2 c75_0_2 : Nat), ∃ n75_1 : Int, e_4 = .returned (.tuple #[.agg #[.int .u64 n75_0_0, .int .i64 n75_0_1, .slice p75_0_2 l75_0_2 c75_0_2], .int .i64 n75_1]) ∧
  Alloc #[.int .u64 0, .int .i64 0, .slice none 0 0] 95 w25 fun k15 w26 =>
  St ⟨k15, 0, none⟩ (.int .u64 n75_0_0) w26 fun w27 =>
  St ⟨k15, 1, none⟩ (.int .i64 n75_0_1) w27 fun w28 =>
  St ⟨k15, 2, none⟩ (.slice p75_0_2 l75_0_2 c75_0_2) w28 fun w29 =>
  ∃ n78_0 : Int, ∃ n78_1 : Int, ∃ (p78_2 : Option Addr) (l78_2 c78_2 : Nat), (w29.cell? ⟨k15, 0, none⟩ = some (.int .u64 n78_0) ∧ w29.cell? ⟨k15, 1, none⟩ = some (.int .i64 n78_1) ∧ w29.cell? ⟨k15, 2, none⟩ = some (.slice p78_2 l78_2 c78_2)) ∧
  St ⟨k4, 0, none⟩ (.int .u64 n78_0) w29 fun w30 =>
  St ⟨k4, 1, none⟩ (.int .i64 n78_1) w30 fun w31 =>
  St ⟨k4, 2, none⟩ (.slice p78_2 l78_2 c78_2) w31 fun w32 =>
  ∃ nr4_0_4 : Int, ∃ nr4_1_4 : Int, ∃ (pr4_2_4 : Option Addr) (lr4_2_4 cr4_2_4 : Nat), (w32.cell? ⟨k4, 0, none⟩ = some (.int .u64 nr4_0_4) ∧ w32.cell? ⟨k4, 1, none⟩ = some (.int .i64 nr4_1_4) ∧ w32.cell? ⟨k4, 2, none⟩ = some (.slice pr4_2_4 lr4_2_4 cr4_2_4)) ∧
  R (.tuple #[.agg #[.int .u64 nr4_0_4, .int .i64 nr4_1_4, .slice pr4_2_4 lr4_2_4 cr4_2_4], .bool (n75_1 == 0)]) w32))))
theorem ring_Ring_record_eq (p0 : Option Addr) (n1 : Int) (w : World) (R : Value → World → Prop) : ring_Ring_record p0 n1 w R = fnP Tryz.prog Tryz.f45 (.s .o (.s .o (.s .o (.s .o (.s .o (.s .o (.s .o (.s (.s .o (.b (.l [(11, .one .slice), (49, .one (.int .i64))] .o))) .o)))))))) [.pointer p0, .int .u64 n1] w R := by kernel_rfl
theorem ring_Ring_record_calls {p0 : Option Addr} {n1 : Int} {w : World} {R : Value → World → Prop} (h : ring_Ring_record p0 n1 w R) : Calls Tryz.prog 45 #[.pointer p0, .int .u64 n1] w fun e w1 => ∃ v, e = .returned v ∧ R v w1 := fnP_calls callable Tryz.func45 (ring_Ring_record_eq p0 n1 w R ▸ h)

/-- revetment/record.Encode -/
def record_Encode (n0_0 : Int) (n0_1 : Int) (p0_2 : Option Addr) (l0_2 c0_2 : Nat) (w : World) (R : Value → World → Prop) : Prop :=
  Alloc #[.int .u64 n0_0, .int .i64 n0_1, .slice p0_2 l0_2 c0_2] 95 w fun k1 w1 =>
  ∃ n8_0 : Int, ∃ n8_1 : Int, ∃ (p8_2 : Option Addr) (l8_2 c8_2 : Nat), (w1.cell? ⟨k1, 0, none⟩ = some (.int .u64 n8_0) ∧ w1.cell? ⟨k1, 1, none⟩ = some (.int .i64 n8_1) ∧ w1.cell? ⟨k1, 2, none⟩ = some (.slice p8_2 l8_2 c8_2)) ∧
  Calls Tryz.prog 90 #[.agg #[.int .u64 n8_0, .int .i64 n8_1, .slice p8_2 l8_2 c8_2]] w1 fun e w2 => ∃ b9 : Bool, e = .returned (.bool b9) ∧
  ((!b9) = true →
  R (.tuple #[.string (ByteArray.mk #[]), .slice none 0 0, .int .i64 1]) w2) ∧
  ((!b9) = false →
  ∃ (p12 : Option Addr) (l12 c12 : Nat), w2.cell? ⟨k1, 2, none⟩ = some (.slice p12 l12 c12) ∧
  LoopP (fun I => I [.slice none 0 0, .int .i64 0] w2) fun K vs w3 => ∃ (p5 : Option Addr) (l5 c5 : Nat), ∃ n14 : Int, vs = [.slice p5 l5 c5, .int .i64 n14] ∧
  ((decide (n14 < (l12 : Int))) = true →
  ∃ a16 : Addr, p12 = some a16 ∧ (0 : Int) ≤ n14 ∧ n14 < (l12 : Int) ∧
  ∃ n17_0 : Int, ∃ n17_1 : Int, ∃ s17_2 : ByteArray, (w3.cell? (Addr.add a16 (n14.toNat * 3)) = some (.int .i64 n17_0) ∧ w3.cell? (Addr.add (Addr.add a16 (n14.toNat * 3)) 1) = some (.int .i64 n17_1) ∧ w3.cell? (Addr.add (Addr.add a16 (n14.toNat * 3)) 2) = some (.string s17_2)) ∧
  Alloc #[.int .i64 0, .int .i64 0, .string (ByteArray.mk #[])] 71 w3 fun k7 w4 =>
  St ⟨k7, 0, none⟩ (.int .i64 n17_0) w4 fun w5 =>
  St ⟨k7, 1, none⟩ (.int .i64 n17_1) w5 fun w6 =>
  St ⟨k7, 2, none⟩ (.string s17_2) w6 fun w7 =>
  ∃ s20 : ByteArray, w7.cell? ⟨k7, 2, none⟩ = some (.string s20) ∧
  Alloc #[.string s20] 9 w7 fun k21 w8 =>
  ∃ (p22 : Option Addr) (l22 c22 : Nat), ∃ w9, (builtin .append #[42, 42] 42 #[false, false] #[.slice p5 l5 c5, .slice (some ⟨k21, 0, none⟩) 1 1]).run Tryz.prog w8 = .ok (.value (.slice p22 l22 c22)) w9 ∧
  K [.slice p22 l22 c22, .int .i64 (IntKind.i64.wrap (n14 + 1))] w9) ∧
  ((decide (n14 < (l12 : Int))) = false →
  ∃ D : World → Prop, D w3.drew ∧
  ∃ n24_0 : Int, ∃ n24_1 : Int, ∃ (p24_2 : Option Addr) (l24_2 c24_2 : Nat), (∀ w, D w → w.cell? ⟨k1, 0, none⟩ = some (.int .u64 n24_0) ∧ w.cell? ⟨k1, 1, none⟩ = some (.int .i64 n24_1) ∧ w.cell? ⟨k1, 2, none⟩ = some (.slice p24_2 l24_2 c24_2)) ∧
  Calls Tryz.prog 92 #[.slice p5 l5 c5, .string (ByteArray.mk #[])] w3.drew fun e_1 w10 => ∃ s26 : ByteArray, e_1 = .returned (.string s26) ∧
  D w10 ∧
  Calls Tryz.prog 78 #[.string s26] w10 fun e_2 w11 => ∃ n27 : Int, e_2 = .returned (.int .u32 n27) ∧
  D w11 ∧
  Calls Tryz.prog 91 #[.agg #[.int .u64 n24_0, .int .i64 n24_1, .slice p24_2 l24_2 c24_2], .int .u32 n27] w11 fun e_3 w12 => ∃ s28 : ByteArray, e_3 = .returned (.string s28) ∧
  D w12 ∧
  R (.tuple #[.string s28, .slice p5 l5 c5, .int .i64 0]) w12))
theorem record_Encode_eq (n0_0 : Int) (n0_1 : Int) (p0_2 : Option Addr) (l0_2 c0_2 : Nat) (w : World) (R : Value → World → Prop) : record_Encode n0_0 n0_1 p0_2 l0_2 c0_2 w R = fnP Tryz.prog Tryz.f59 (.s .o (.s .o (.s .o (.s (.s .o (.b (.l [(5, .one .slice), (14, .one (.int .i64))] .o))) .o)))) [.agg #[.int .u64 n0_0, .int .i64 n0_1, .slice p0_2 l0_2 c0_2]] w R := by kernel_rfl
theorem record_Encode_calls {n0_0 : Int} {n0_1 : Int} {p0_2 : Option Addr} {l0_2 c0_2 : Nat} {w : World} {R : Value → World → Prop} (h : record_Encode n0_0 n0_1 p0_2 l0_2 c0_2 w R) : Calls Tryz.prog 59 #[.agg #[.int .u64 n0_0, .int .i64 n0_1, .slice p0_2 l0_2 c0_2]] w fun e w1 => ∃ v, e = .returned v ∧ R v w1 := fnP_calls callable Tryz.func59 (record_Encode_eq n0_0 n0_1 p0_2 l0_2 c0_2 w R ▸ h)

/-- (*revetment/ring.Ring).first -/
def ring_Ring_first (p0 : Option Addr) (n1 : Int) (w : World) (R : Value → World → Prop) : Prop :=
  ∃ a7 : Addr, p0 = some a7 ∧
  ∃ n9 : Int, w.cell? (a7.add 1) = some (.int .i64 n9) ∧
  (IntKind.u64.wrap n9) ≠ 0 ∧
  R (.int .i64 (IntKind.i64.wrap (4 + (IntKind.i64.wrap (41 * (IntKind.i64.wrap (Int.tmod n1 (IntKind.u64.wrap n9)))))))) w
theorem ring_Ring_first_eq (p0 : Option Addr) (n1 : Int) (w : World) (R : Value → World → Prop) : ring_Ring_first p0 n1 w R = fnP Tryz.prog Tryz.f60 .o [.pointer p0, .int .u64 n1] w R := by kernel_rfl
theorem ring_Ring_first_calls {p0 : Option Addr} {n1 : Int} {w : World} {R : Value → World → Prop} (h : ring_Ring_first p0 n1 w R) : Calls Tryz.prog 60 #[.pointer p0, .int .u64 n1] w fun e w1 => ∃ v, e = .returned v ∧ R v w1 := fnP_calls callable Tryz.func60 (ring_Ring_first_eq p0 n1 w R ▸ h)

/-- revetment/ring.written$1 -/
def ring_written_1 (k0 : Addr) (k1 : Addr) (k2 : Addr) (w : World) (R : Value → World → Prop) : Prop :=
  ∃ p4 : Option Addr, w.cell? k0 = some (.pointer p4) ∧
  ∃ n5 : Int, w.cell? k1 = some (.int .i64 n5) ∧
  ∃ s6 : ByteArray, w.cell? k2 = some (.string s6) ∧
  Calls Tryz.prog 16 #[.pointer p4, .int .i64 n5, .string s6] w fun e w1 => ∃ n7 : Int, e = .returned (.int .i64 n7) ∧
  R (.int .i64 n7) w1
theorem ring_written_1_eq (k0 : Addr) (k1 : Addr) (k2 : Addr) (w : World) (R : Value → World → Prop) : ring_written_1 k0 k1 k2 w R = fnP Tryz.prog Tryz.f63 .o [.pointer (some k0), .pointer (some k1), .pointer (some k2)] w R := by kernel_rfl
theorem ring_written_1_calls {k0 : Addr} {k1 : Addr} {k2 : Addr} {w : World} {R : Value → World → Prop} (h : ring_written_1 k0 k1 k2 w R) : Calls Tryz.prog 63 #[.pointer (some k0), .pointer (some k1), .pointer (some k2)] w fun e w1 => ∃ v, e = .returned v ∧ R v w1 := fnP_calls callable Tryz.func63 (ring_written_1_eq k0 k1 k2 w R ▸ h)

/-- strings.HasPrefix -/
def strings_HasPrefix (s0 : ByteArray) (s1 : ByteArray) (w : World) (R : Value → World → Prop) : Prop :=
  Calls Tryz.prog 97 #[.string s0, .string s1] w fun e w1 => ∃ b7 : Bool, e = .returned (.bool b7) ∧
  R (.bool b7) w1
theorem strings_HasPrefix_eq (s0 : ByteArray) (s1 : ByteArray) (w : World) (R : Value → World → Prop) : strings_HasPrefix s0 s1 w R = fnP Tryz.prog Tryz.f65 .o [.string s0, .string s1] w R := by kernel_rfl
theorem strings_HasPrefix_calls {s0 : ByteArray} {s1 : ByteArray} {w : World} {R : Value → World → Prop} (h : strings_HasPrefix s0 s1 w R) : Calls Tryz.prog 65 #[.string s0, .string s1] w fun e w1 => ∃ v, e = .returned v ∧ R v w1 := fnP_calls callable Tryz.func65 (strings_HasPrefix_eq s0 s1 w R ▸ h)

/-- revetment/pack.Encode -/
def pack_Encode (p0 : Option Addr) (l0 c0 : Nat) (p1 : Option Addr) (l1 c1 : Nat) (w : World) (R : Value → World → Prop) : Prop :=
  Alloc #[.slice p0 l0 c0] 90 w fun k2 w1 =>
  Calls Tryz.prog 79 #[.slice p1 l1 c1] w1 fun e w2 => ∃ n15_0 : Int, ∃ n15_1 : Int, e = .returned (.tuple #[.int .i64 n15_0, .int .i64 n15_1]) ∧
  ((n15_1 != 0) = true →
  R (.tuple #[.string (ByteArray.mk #[]), .int .i64 n15_1]) w2) ∧
  ((n15_1 != 0) = false →
  ∃ (p23 : Option Addr) (l23 c23 : Nat), w2.cell? ⟨k2, 0, none⟩ = some (.slice p23 l23 c23) ∧
  (((l23 : Int) != (l1 : Int)) = true →
  R (.tuple #[.string (ByteArray.mk #[]), .int .i64 1]) w2) ∧
  (((l23 : Int) != (l1 : Int)) = false →
  LoopP (fun I => I [.string (ByteArray.mk #[]), .int .i64 0, .int .i64 0] w2) fun K vs w3 => ∃ s4 : ByteArray, ∃ n5 : Int, ∃ n30 : Int, vs = [.string s4, .int .i64 n5, .int .i64 n30] ∧
  ((decide (n30 < (l1 : Int))) = true →
  ∃ a33 : Addr, p1 = some a33 ∧ (0 : Int) ≤ n30 ∧ n30 < (l1 : Int) ∧
  ∃ n34 : Int, w3.cell? (Addr.add a33 (n30.toNat * 1)) = some (.int .i64 n34) ∧
  ∃ (p35 : Option Addr) (l35 c35 : Nat), w3.cell? ⟨k2, 0, none⟩ = some (.slice p35 l35 c35) ∧
  ∃ a37 : Addr, p35 = some a37 ∧ (0 : Int) ≤ n30 ∧ n30 < (l35 : Int) ∧
  ∃ n38 : Int, w3.cell? (Addr.add a37 (n30.toNat * 1)) = some (.int .u64 n38) ∧
  Calls Tryz.prog 100 #[.int .u64 n38, .int .i64 n34] w3 fun e_1 w4 => ∃ b40 : Bool, e_1 = .returned (.bool b40) ∧
  ((!b40) = true →
  R (.tuple #[.string (ByteArray.mk #[]), .int .i64 30]) w4) ∧
  ((!b40) = false →
  K [.string s4, .int .i64 n5, .int .i64 (IntKind.i64.wrap (n30 + 1))] w4)) ∧
  ((decide (n30 < (l1 : Int))) = false →
  ∃ (p44 : Option Addr) (l44 c44 : Nat), ∃ w5, (Instr.makeSlice 44 (.int .i64 0) (.int .i64 n15_0)).run Tryz.prog w3 = .ok (.slice p44 l44 c44) w5 ∧
  Alloc #[.slice none 0 0] 44 w5 fun k10 w6 =>
  St ⟨k10, 0, none⟩ (.slice p44 l44 c44) w6 fun w7 =>
  Calls Tryz.prog 80 #[.slice p1 l1 c1] w7 fun e_2 w8 => ∃ v46 : Value, e_2 = .returned v46 ∧
  RangeP Tryz.prog v46 (fun ob l args W Φ => ∃ n47 : Int, ∃ n48 : Int, args = [.int .i64 n47, .int .i64 n48] ∧
  RoundP ob l Φ (fun K_1 X R w9 =>
  ∃ D : World → Prop, D w9.drew ∧
  ∃ (p49 : Option Addr) (l49 c49 : Nat), (∀ w, D w → w.cell? ⟨k10, 0, none⟩ = some (.slice p49 l49 c49)) ∧
  ∃ (p50 : Option Addr) (l50 c50 : Nat), (∀ w, D w → w.cell? ⟨k2, 0, none⟩ = some (.slice p50 l50 c50)) ∧
  ∃ a52 : Addr, p50 = some a52 ∧ (0 : Int) ≤ n47 ∧ n47 < (l50 : Int) ∧
  ∃ n53 : Int, (∀ w, D w → w.cell? (Addr.add a52 (n47.toNat * 1)) = some (.int .u64 n53)) ∧
  (0 : Int) ≤ n48 ∧
  Alloc #[.int .u8 (IntKind.u8.wrap (Int.fdiv n53 (2 ^ (min n48.toNat 64))))] 5 w9.drew fun k57 w10 =>
  D w10 ∧
  ∃ (p58 : Option Addr) (l58 c58 : Nat), ∃ w11, (builtin .append #[44, 44] 44 #[false, false] #[.slice p49 l49 c49, .slice (some ⟨k57, 0, none⟩) 1 1]).run Tryz.prog w10 = .ok (.value (.slice p58 l58 c58)) w11 ∧
  D w11 ∧
  St ⟨k10, 0, none⟩ (.slice p58 l58 c58) w11 fun w12 =>
  K_1 w12) W) []
  (fun d w13 =>
  ∃ (p59 : Option Addr) (l59 c59 : Nat), w13.cell? ⟨k10, 0, none⟩ = some (.slice p59 l59 c59) ∧
  ∃ s60 : ByteArray, ∃ w14, (convert 44 9 (.slice p59 l59 c59)).run Tryz.prog w13 = .ok (.string s60) w14 ∧
  w14.heap[d]? = some (.deferred (some [])) ∧
  R (.tuple #[.string s60, .int .i64 0]) (w14.putObj d (.deferred none)))
  (fun d_1 w15 =>
  w15.heap[d_1]? = some (.deferred (some [])) ∧
  R (.tuple #[.string s4, .int .i64 n5]) (w15.putObj d_1 (.deferred none))) w8)))
theorem pack_Encode_eq (p0 : Option Addr) (l0 c0 : Nat) (p1 : Option Addr) (l1 c1 : Nat) (w : World) (R : Value → World → Prop) : pack_Encode p0 l0 c0 p1 l1 c1 w R = fnP Tryz.prog Tryz.f70 (.s .o (.s .o (.s .o (.s (.s .o (.b (.l [(4, .one .str), (5, .one (.int .i64)), (30, .one (.int .i64))] .o))) (.s .o (.s (.s .o (.b (.rf [(47, .one (.int .i64)), (48, .one (.int .i64))] .o))) .o)))))) [.slice p0 l0 c0, .slice p1 l1 c1] w R := by kernel_rfl
theorem pack_Encode_calls {p0 : Option Addr} {l0 c0 : Nat} {p1 : Option Addr} {l1 c1 : Nat} {w : World} {R : Value → World → Prop} (h : pack_Encode p0 l0 c0 p1 l1 c1 w R) : Calls Tryz.prog 70 #[.slice p0 l0 c0, .slice p1 l1 c1] w fun e w1 => ∃ v, e = .returned v ∧ R v w1 := fnP_calls callable Tryz.func70 (pack_Encode_eq p0 l0 c0 p1 l1 c1 w R ▸ h)

/-- revetment/crc.Seal -/
def crc_Seal (s0 : ByteArray) (n1 : Int) (w : World) (R : Value → World → Prop) : Prop :=
  ((decide (n1 < 4)) = true →
  R (.tuple #[.string (ByteArray.mk #[]), .bool false]) w) ∧
  ((decide (n1 < 4)) = false →
  ((decide (n1 > 4096)) = true →
  R (.tuple #[.string (ByteArray.mk #[]), .bool false]) w) ∧
  ((decide (n1 > 4096)) = false →
  ((decide ((s0.size : Int) > (IntKind.i64.wrap (n1 - 4)))) = true →
  R (.tuple #[.string (ByteArray.mk #[]), .bool false]) w) ∧
  ((decide ((s0.size : Int) > (IntKind.i64.wrap (n1 - 4)))) = false →
  ∃ (p22 : Option Addr) (l22 c22 : Nat), ∃ w1, (Instr.makeSlice 44 (.int .i64 (IntKind.i64.wrap (n1 - 4))) (.int .i64 (IntKind.i64.wrap (n1 - 4)))).run Tryz.prog w = .ok (.slice p22 l22 c22) w1 ∧
  ∃ n25 : Int, ∃ w2, (builtin .copy #[44, 9] 3 #[false, false] #[.slice p22 l22 c22, .string s0]).run Tryz.prog w1 = .ok (.value (.int .i64 n25)) w2 ∧
  ∃ s28 : ByteArray, ∃ w3, (convert 44 9 (.slice p22 l22 c22)).run Tryz.prog w2 = .ok (.string s28) w3 ∧
  Calls Tryz.prog 78 #[.string s28] w3 fun e w4 => ∃ n29 : Int, e = .returned (.int .u32 n29) ∧
  Calls Tryz.prog 77 #[.int .u32 n29] w4 fun e_1 w5 => ∃ (p30 : Option Addr) (l30 c30 : Nat), e_1 = .returned (.slice p30 l30 c30) ∧
  ∃ (p31 : Option Addr) (l31 c31 : Nat), ∃ w6, (builtin .append #[44, 44] 44 #[false, false] #[.slice p22 l22 c22, .slice p30 l30 c30]).run Tryz.prog w5 = .ok (.value (.slice p31 l31 c31)) w6 ∧
  ∃ s32 : ByteArray, ∃ w7, (convert 44 9 (.slice p31 l31 c31)).run Tryz.prog w6 = .ok (.string s32) w7 ∧
  R (.tuple #[.string s32, .bool true]) w7)))
theorem crc_Seal_eq (s0 : ByteArray) (n1 : Int) (w : World) (R : Value → World → Prop) : crc_Seal s0 n1 w R = fnP Tryz.prog Tryz.f71 .o [.string s0, .int .i64 n1] w R := by kernel_rfl
theorem crc_Seal_calls {s0 : ByteArray} {n1 : Int} {w : World} {R : Value → World → Prop} (h : crc_Seal s0 n1 w R) : Calls Tryz.prog 71 #[.string s0, .int .i64 n1] w fun e w1 => ∃ v, e = .returned v ∧ R v w1 := fnP_calls callable Tryz.func71 (crc_Seal_eq s0 n1 w R ▸ h)

/-- revetment/crc.bytes -/
def crc_bytes (n0 : Int) (w : World) (R : Value → World → Prop) : Prop :=
  Alloc #[.int .u8 (IntKind.u8.wrap n0), .int .u8 (IntKind.u8.wrap (Int.fdiv n0 (2 ^ 8))), .int .u8 (IntKind.u8.wrap (Int.fdiv n0 (2 ^ 16))), .int .u8 (IntKind.u8.wrap (Int.fdiv n0 (2 ^ 24)))] 5 w fun k14 w1 =>
  R (.slice (some ⟨k14, 0, none⟩) 4 4) w1
theorem crc_bytes_eq (n0 : Int) (w : World) (R : Value → World → Prop) : crc_bytes n0 w R = fnP Tryz.prog Tryz.f77 .o [.int .u32 n0] w R := by kernel_rfl
theorem crc_bytes_calls {n0 : Int} {w : World} {R : Value → World → Prop} (h : crc_bytes n0 w R) : Calls Tryz.prog 77 #[.int .u32 n0] w fun e w1 => ∃ v, e = .returned v ∧ R v w1 := fnP_calls callable Tryz.func77 (crc_bytes_eq n0 w R ▸ h)

/-- revetment/crc.Sum -/
def crc_Sum (s0 : ByteArray) (w : World) (R : Value → World → Prop) : Prop :=
  Calls Tryz.prog 102 #[.int .u32 0, .string s0] w fun e w1 => ∃ n4 : Int, e = .returned (.int .u32 n4) ∧
  R (.int .u32 n4) w1
theorem crc_Sum_eq (s0 : ByteArray) (w : World) (R : Value → World → Prop) : crc_Sum s0 w R = fnP Tryz.prog Tryz.f78 .o [.string s0] w R := by kernel_rfl
theorem crc_Sum_calls {s0 : ByteArray} {w : World} {R : Value → World → Prop} (h : crc_Sum s0 w R) : Calls Tryz.prog 78 #[.string s0] w fun e w1 => ∃ v, e = .returned v ∧ R v w1 := fnP_calls callable Tryz.func78 (crc_Sum_eq s0 w R ▸ h)

/-- revetment/pack.Size -/
def pack_Size (p0 : Option Addr) (l0 c0 : Nat) (w : World) (R : Value → World → Prop) : Prop :=
  LoopP (fun I => I [.int .i64 0, .int .i64 0] w) fun K vs w1 => ∃ n4 : Int, ∃ n9 : Int, vs = [.int .i64 n4, .int .i64 n9] ∧
  ((decide (n9 < (l0 : Int))) = true →
  ∃ a11 : Addr, p0 = some a11 ∧ (0 : Int) ≤ n9 ∧ n9 < (l0 : Int) ∧
  ∃ n12 : Int, w1.cell? (Addr.add a11 (n9.toNat * 1)) = some (.int .i64 n12) ∧
  ((decide (n12 < 1)) = true →
  R (.tuple #[.int .i64 0, .int .i64 1]) w1) ∧
  ((decide (n12 < 1)) = false →
  ((decide (n12 > 8)) = true →
  R (.tuple #[.int .i64 0, .int .i64 1]) w1) ∧
  ((decide (n12 > 8)) = false →
  K [.int .i64 (IntKind.i64.wrap (n4 + n12)), .int .i64 (IntKind.i64.wrap (n9 + 1))] w1))) ∧
  ((decide (n9 < (l0 : Int))) = false →
  ((decide ((l0 : Int) > 64)) = true →
  R (.tuple #[.int .i64 0, .int .i64 1]) w1) ∧
  ((decide ((l0 : Int) > 64)) = false →
  R (.tuple #[.int .i64 n4, .int .i64 0]) w1))
theorem pack_Size_eq (p0 : Option Addr) (l0 c0 : Nat) (w : World) (R : Value → World → Prop) : pack_Size p0 l0 c0 w R = fnP Tryz.prog Tryz.f79 (.s .o (.s .o (.s (.s .o (.b (.l [(4, .one (.int .i64)), (9, .one (.int .i64))] .o))) .o))) [.slice p0 l0 c0] w R := by kernel_rfl
theorem pack_Size_calls {p0 : Option Addr} {l0 c0 : Nat} {w : World} {R : Value → World → Prop} (h : pack_Size p0 l0 c0 w R) : Calls Tryz.prog 79 #[.slice p0 l0 c0] w fun e w1 => ∃ v, e = .returned v ∧ R v w1 := fnP_calls callable Tryz.func79 (pack_Size_eq p0 l0 c0 w R ▸ h)

/-- revetment/pack.places -/
def pack_places (p0 : Option Addr) (l0 c0 : Nat) (w : World) (R : Value → World → Prop) : Prop :=
  Alloc #[.slice p0 l0 c0] 93 w fun k1 w1 =>
  R (.func (.func 103) #[] #[.pointer (some ⟨k1, 0, none⟩)]) w1
theorem pack_places_eq (p0 : Option Addr) (l0 c0 : Nat) (w : World) (R : Value → World → Prop) : pack_places p0 l0 c0 w R = fnP Tryz.prog Tryz.f80 .o [.slice p0 l0 c0] w R := by kernel_rfl
theorem pack_places_calls {p0 : Option Addr} {l0 c0 : Nat} {w : World} {R : Value → World → Prop} (h : pack_places p0 l0 c0 w R) : Calls Tryz.prog 80 #[.slice p0 l0 c0] w fun e w1 => ∃ v, e = .returned v ∧ R v w1 := fnP_calls callable Tryz.func80 (pack_places_eq p0 l0 c0 w R ▸ h)

/-- revetment/record.Head -/
def record_Head (s0 : ByteArray) (w : World) (R : Value → World → Prop) : Prop :=
  Alloc #[.int .u64 0, .int .i64 0, .slice none 0 0] 95 w fun k2 w1 =>
  (((s0.size : Int) != 64) = true →
  St ⟨k2, 0, none⟩ (.int .u64 0) w1 fun w2 =>
  St ⟨k2, 1, none⟩ (.int .i64 0) w2 fun w3 =>
  St ⟨k2, 2, none⟩ (.slice none 0 0) w3 fun w4 =>
  ∃ nr2_0 : Int, ∃ nr2_1 : Int, ∃ (pr2_2 : Option Addr) (lr2_2 cr2_2 : Nat), (w4.cell? ⟨k2, 0, none⟩ = some (.int .u64 nr2_0) ∧ w4.cell? ⟨k2, 1, none⟩ = some (.int .i64 nr2_1) ∧ w4.cell? ⟨k2, 2, none⟩ = some (.slice pr2_2 lr2_2 cr2_2)) ∧
  R (.tuple #[.agg #[.int .u64 nr2_0, .int .i64 nr2_1, .slice pr2_2 lr2_2 cr2_2], .int .u32 0, .int .i64 31]) w4) ∧
  (((s0.size : Int) != 64) = false →
  Calls Tryz.prog 43 #[.string s0] w1 fun e w5 => ∃ s19_0 : ByteArray, ∃ b19_1 : Bool, e = .returned (.tuple #[.string s19_0, .bool b19_1]) ∧
  ((!b19_1) = true →
  St ⟨k2, 0, none⟩ (.int .u64 0) w5 fun w6 =>
  St ⟨k2, 1, none⟩ (.int .i64 0) w6 fun w7 =>
  St ⟨k2, 2, none⟩ (.slice none 0 0) w7 fun w8 =>
  ∃ nr2_0_1 : Int, ∃ nr2_1_1 : Int, ∃ (pr2_2_1 : Option Addr) (lr2_2_1 cr2_2_1 : Nat), (w8.cell? ⟨k2, 0, none⟩ = some (.int .u64 nr2_0_1) ∧ w8.cell? ⟨k2, 1, none⟩ = some (.int .i64 nr2_1_1) ∧ w8.cell? ⟨k2, 2, none⟩ = some (.slice pr2_2_1 lr2_2_1 cr2_2_1)) ∧
  R (.tuple #[.agg #[.int .u64 nr2_0_1, .int .i64 nr2_1_1, .slice pr2_2_1 lr2_2_1 cr2_2_1], .int .u32 0, .int .i64 80]) w8) ∧
  ((!b19_1) = false →
  Calls Tryz.prog 65 #[.string s19_0, .string (ByteArray.mk #[82, 86, 84, 74])] w5 fun e_1 w9 => ∃ b28 : Bool, e_1 = .returned (.bool b28) ∧
  ((!b28) = true →
  St ⟨k2, 0, none⟩ (.int .u64 0) w9 fun w10 =>
  St ⟨k2, 1, none⟩ (.int .i64 0) w10 fun w11 =>
  St ⟨k2, 2, none⟩ (.slice none 0 0) w11 fun w12 =>
  ∃ nr2_0_2 : Int, ∃ nr2_1_2 : Int, ∃ (pr2_2_2 : Option Addr) (lr2_2_2 cr2_2_2 : Nat), (w12.cell? ⟨k2, 0, none⟩ = some (.int .u64 nr2_0_2) ∧ w12.cell? ⟨k2, 1, none⟩ = some (.int .i64 nr2_1_2) ∧ w12.cell? ⟨k2, 2, none⟩ = some (.slice pr2_2_2 lr2_2_2 cr2_2_2)) ∧
  R (.tuple #[.agg #[.int .u64 nr2_0_2, .int .i64 nr2_1_2, .slice pr2_2_2 lr2_2_2 cr2_2_2], .int .u32 0, .int .i64 81]) w12) ∧
  ((!b28) = false →
  ∃ s33 : ByteArray, ∃ w13, (Instr.sliceAt 9 (.string s19_0) (some (.int .i64 4)) (some (.int .i64 19)) none).run Tryz.prog w9 = .ok (.string s33) w13 ∧
  Alloc #[.int .i64 8, .int .i64 2, .int .i64 1, .int .i64 4] 3 w13 fun k34 w14 =>
  Calls Tryz.prog 44 #[.string s33, .slice (some ⟨k34, 0, none⟩) 4 4] w14 fun e_2 w15 => ∃ (p35_0 : Option Addr) (l35_0 c35_0 : Nat), ∃ n35_1 : Int, e_2 = .returned (.tuple #[.slice p35_0 l35_0 c35_0, .int .i64 n35_1]) ∧
  ((n35_1 != 0) = true →
  St ⟨k2, 0, none⟩ (.int .u64 0) w15 fun w16 =>
  St ⟨k2, 1, none⟩ (.int .i64 0) w16 fun w17 =>
  St ⟨k2, 2, none⟩ (.slice none 0 0) w17 fun w18 =>
  ∃ nr2_0_3 : Int, ∃ nr2_1_3 : Int, ∃ (pr2_2_3 : Option Addr) (lr2_2_3 cr2_2_3 : Nat), (w18.cell? ⟨k2, 0, none⟩ = some (.int .u64 nr2_0_3) ∧ w18.cell? ⟨k2, 1, none⟩ = some (.int .i64 nr2_1_3) ∧ w18.cell? ⟨k2, 2, none⟩ = some (.slice pr2_2_3 lr2_2_3 cr2_2_3)) ∧
  R (.tuple #[.agg #[.int .u64 nr2_0_3, .int .i64 nr2_1_3, .slice pr2_2_3 lr2_2_3 cr2_2_3], .int .u32 0, .int .i64 n35_1]) w18) ∧
  ((n35_1 != 0) = false →
  ∃ D : World → Prop, D w15.drew ∧
  ∃ a43 : Addr, p35_0 = some a43 ∧ (0 : Int) ≤ 0 ∧ 0 < (l35_0 : Int) ∧
  ∃ n44 : Int, (∀ w, D w → w.cell? a43 = some (.int .u64 n44)) ∧
  ∃ a46 : Addr, p35_0 = some a46 ∧ (0 : Int) ≤ 1 ∧ 1 < (l35_0 : Int) ∧
  ∃ n47 : Int, (∀ w, D w → w.cell? (a46.add 1) = some (.int .u64 n47)) ∧
  Alloc #[.int .u64 0, .int .i64 0, .slice none 0 0] 95 w15.drew fun k9 w19 =>
  D w19 ∧
  St ⟨k9, 0, none⟩ (.int .u64 n44) w19 fun w20 =>
  St ⟨k9, 1, none⟩ (.int .i64 (IntKind.i64.wrap n47)) w20 fun w21 =>
  St ⟨k9, 2, none⟩ (.slice none 0 0) w21 fun w22 =>
  ∃ a52 : Addr, p35_0 = some a52 ∧ (0 : Int) ≤ 2 ∧ 2 < (l35_0 : Int) ∧
  ∃ n53 : Int, w22.cell? (a52.add 2) = some (.int .u64 n53) ∧
  ∃ n58 : Int, ∃ w23, (builtin .min #[3, 3] 3 #[false, false] #[.int .i64 (IntKind.i64.wrap (19 + (IntKind.i64.wrap n53))), .int .i64 (s19_0.size : Int)]).run Tryz.prog w22 = .ok (.value (.int .i64 n58)) w23 ∧
  ∃ s59 : ByteArray, ∃ w24, (Instr.sliceAt 9 (.string s19_0) (some (.int .i64 19)) (some (.int .i64 n58)) none).run Tryz.prog w23 = .ok (.string s59) w24 ∧
  ∃ (p60 : Option Addr) (l60 c60 : Nat), ∃ w25, (convert 9 44 (.string s59)).run Tryz.prog w24 = .ok (.slice p60 l60 c60) w25 ∧
  LoopP (fun I => I [.int .i64 0] w25) fun K vs w26 => ∃ n62 : Int, vs = [.int .i64 n62] ∧
  ((decide (n62 < (l60 : Int))) = true →
  ∃ a64 : Addr, p60 = some a64 ∧ (0 : Int) ≤ n62 ∧ n62 < (l60 : Int) ∧
  ∃ n65 : Int, w26.cell? (Addr.add a64 (n62.toNat * 1)) = some (.int .u8 n65) ∧
  ∃ (p67 : Option Addr) (l67 c67 : Nat), w26.cell? ⟨k9, 2, none⟩ = some (.slice p67 l67 c67) ∧
  Alloc #[.int .i64 (IntKind.i64.wrap (Int.fdiv n65 (2 ^ 2))), .int .i64 (IntKind.i64.wrap (bits2 .and .u8 n65 3)), .string (ByteArray.mk #[])] 71 w26 fun k75 w27 =>
  ∃ (p76 : Option Addr) (l76 c76 : Nat), ∃ w28, (builtin .append #[43, 43] 43 #[false, false] #[.slice p67 l67 c67, .slice (some ⟨k75, 0, none⟩) 1 1]).run Tryz.prog w27 = .ok (.value (.slice p76 l76 c76)) w28 ∧
  St ⟨k9, 2, none⟩ (.slice p76 l76 c76) w28 fun w29 =>
  K [.int .i64 (IntKind.i64.wrap (n62 + 1))] w29) ∧
  ((decide (n62 < (l60 : Int))) = false →
  Join (fun vs_1 w30 => vs_1 = [] ∧
  St ⟨k2, 0, none⟩ (.int .u64 0) w30 fun w31 =>
  St ⟨k2, 1, none⟩ (.int .i64 0) w31 fun w32 =>
  St ⟨k2, 2, none⟩ (.slice none 0 0) w32 fun w33 =>
  ∃ nr2_0_4 : Int, ∃ nr2_1_4 : Int, ∃ (pr2_2_4 : Option Addr) (lr2_2_4 cr2_2_4 : Nat), (w33.cell? ⟨k2, 0, none⟩ = some (.int .u64 nr2_0_4) ∧ w33.cell? ⟨k2, 1, none⟩ = some (.int .i64 nr2_1_4) ∧ w33.cell? ⟨k2, 2, none⟩ = some (.slice pr2_2_4 lr2_2_4 cr2_2_4)) ∧
  R (.tuple #[.agg #[.int .u64 nr2_0_4, .int .i64 nr2_1_4, .slice pr2_2_4 lr2_2_4 cr2_2_4], .int .u32 0, .int .i64 1]) w33) fun J =>
  ∃ a80 : Addr, p35_0 = some a80 ∧ (0 : Int) ≤ 3 ∧ 3 < (l35_0 : Int) ∧
  ∃ n81 : Int, w26.cell? (a80.add 3) = some (.int .u64 n81) ∧
  ∃ n83_0 : Int, ∃ n83_1 : Int, ∃ (p83_2 : Option Addr) (l83_2 c83_2 : Nat), (w26.cell? ⟨k9, 0, none⟩ = some (.int .u64 n83_0) ∧ w26.cell? ⟨k9, 1, none⟩ = some (.int .i64 n83_1) ∧ w26.cell? ⟨k9, 2, none⟩ = some (.slice p83_2 l83_2 c83_2)) ∧
  Calls Tryz.prog 104 #[.agg #[.int .u64 n83_0, .int .i64 n83_1, .slice p83_2 l83_2 c83_2]] w26 fun e_3 w34 => ∃ b84 : Bool, e_3 = .returned (.bool b84) ∧
  (b84 = true →
  ∃ n86_0 : Int, ∃ n86_1 : Int, ∃ (p86_2 : Option Addr) (l86_2 c86_2 : Nat), (w34.cell? ⟨k9, 0, none⟩ = some (.int .u64 n86_0) ∧ w34.cell? ⟨k9, 1, none⟩ = some (.int .i64 n86_1) ∧ w34.cell? ⟨k9, 2, none⟩ = some (.slice p86_2 l86_2 c86_2)) ∧
  Calls Tryz.prog 91 #[.agg #[.int .u64 n86_0, .int .i64 n86_1, .slice p86_2 l86_2 c86_2], .int .u32 (IntKind.u32.wrap n81)] w34 fun e_4 w35 => ∃ s88 : ByteArray, e_4 = .returned (.string s88) ∧
  ((s88.toList == s0.toList) = true →
  ∃ n92_0 : Int, ∃ n92_1 : Int, ∃ (p92_2 : Option Addr) (l92_2 c92_2 : Nat), (w35.cell? ⟨k9, 0, none⟩ = some (.int .u64 n92_0) ∧ w35.cell? ⟨k9, 1, none⟩ = some (.int .i64 n92_1) ∧ w35.cell? ⟨k9, 2, none⟩ = some (.slice p92_2 l92_2 c92_2)) ∧
  St ⟨k2, 0, none⟩ (.int .u64 n92_0) w35 fun w36 =>
  St ⟨k2, 1, none⟩ (.int .i64 n92_1) w36 fun w37 =>
  St ⟨k2, 2, none⟩ (.slice p92_2 l92_2 c92_2) w37 fun w38 =>
  ∃ nr2_0_5 : Int, ∃ nr2_1_5 : Int, ∃ (pr2_2_5 : Option Addr) (lr2_2_5 cr2_2_5 : Nat), (w38.cell? ⟨k2, 0, none⟩ = some (.int .u64 nr2_0_5) ∧ w38.cell? ⟨k2, 1, none⟩ = some (.int .i64 nr2_1_5) ∧ w38.cell? ⟨k2, 2, none⟩ = some (.slice pr2_2_5 lr2_2_5 cr2_2_5)) ∧
  R (.tuple #[.agg #[.int .u64 nr2_0_5, .int .i64 nr2_1_5, .slice pr2_2_5 lr2_2_5 cr2_2_5], .int .u32 (IntKind.u32.wrap n81), .int .i64 0]) w38) ∧
  ((s88.toList == s0.toList) = false →
  J [] w35)) ∧
  (b84 = false →
  J [] w34))))))
theorem record_Head_eq (s0 : ByteArray) (w : World) (R : Value → World → Prop) : record_Head s0 w R = fnP Tryz.prog Tryz.f81 (.s .o (.s .o (.s .o (.s .o (.s .o (.s .o (.s .o (.s (.s .o (.b (.l [(62, .one (.int .i64))] .o))) (.j [] .o .o))))))))) [.string s0] w R := by kernel_rfl
theorem record_Head_calls {s0 : ByteArray} {w : World} {R : Value → World → Prop} (h : record_Head s0 w R) : Calls Tryz.prog 81 #[.string s0] w fun e w1 => ∃ v, e = .returned v ∧ R v w1 := fnP_calls callable Tryz.func81 (record_Head_eq s0 w R ▸ h)

/-- revetment/record.Decode -/
def record_Decode (s0 : ByteArray) (p1 : Option Addr) (l1 c1 : Nat) (w : World) (R : Value → World → Prop) : Prop :=
  Alloc #[.int .u64 0, .int .i64 0, .slice none 0 0] 95 w fun k4 w1 =>
  Calls Tryz.prog 81 #[.string s0] w1 fun e w2 => ∃ n13_0_0 : Int, ∃ n13_0_1 : Int, ∃ (p13_0_2 : Option Addr) (l13_0_2 c13_0_2 : Nat), ∃ n13_1 : Int, ∃ n13_2 : Int, e = .returned (.tuple #[.agg #[.int .u64 n13_0_0, .int .i64 n13_0_1, .slice p13_0_2 l13_0_2 c13_0_2], .int .u32 n13_1, .int .i64 n13_2]) ∧
  Alloc #[.int .u64 0, .int .i64 0, .slice none 0 0] 95 w2 fun k6 w3 =>
  St ⟨k6, 0, none⟩ (.int .u64 n13_0_0) w3 fun w4 =>
  St ⟨k6, 1, none⟩ (.int .i64 n13_0_1) w4 fun w5 =>
  St ⟨k6, 2, none⟩ (.slice p13_0_2 l13_0_2 c13_0_2) w5 fun w6 =>
  ((n13_2 != 0) = true →
  St ⟨k4, 0, none⟩ (.int .u64 0) w6 fun w7 =>
  St ⟨k4, 1, none⟩ (.int .i64 0) w7 fun w8 =>
  St ⟨k4, 2, none⟩ (.slice none 0 0) w8 fun w9 =>
  ∃ nr4_0 : Int, ∃ nr4_1 : Int, ∃ (pr4_2 : Option Addr) (lr4_2 cr4_2 : Nat), (w9.cell? ⟨k4, 0, none⟩ = some (.int .u64 nr4_0) ∧ w9.cell? ⟨k4, 1, none⟩ = some (.int .i64 nr4_1) ∧ w9.cell? ⟨k4, 2, none⟩ = some (.slice pr4_2 lr4_2 cr4_2)) ∧
  R (.tuple #[.agg #[.int .u64 nr4_0, .int .i64 nr4_1, .slice pr4_2 lr4_2 cr4_2], .int .i64 n13_2]) w9) ∧
  ((n13_2 != 0) = false →
  ∃ (p26 : Option Addr) (l26 c26 : Nat), w6.cell? ⟨k6, 2, none⟩ = some (.slice p26 l26 c26) ∧
  (((l1 : Int) != (l26 : Int)) = true →
  St ⟨k4, 0, none⟩ (.int .u64 0) w6 fun w10 =>
  St ⟨k4, 1, none⟩ (.int .i64 0) w10 fun w11 =>
  St ⟨k4, 2, none⟩ (.slice none 0 0) w11 fun w12 =>
  ∃ nr4_0_1 : Int, ∃ nr4_1_1 : Int, ∃ (pr4_2_1 : Option Addr) (lr4_2_1 cr4_2_1 : Nat), (w12.cell? ⟨k4, 0, none⟩ = some (.int .u64 nr4_0_1) ∧ w12.cell? ⟨k4, 1, none⟩ = some (.int .i64 nr4_1_1) ∧ w12.cell? ⟨k4, 2, none⟩ = some (.slice pr4_2_1 lr4_2_1 cr4_2_1)) ∧
  R (.tuple #[.agg #[.int .u64 nr4_0_1, .int .i64 nr4_1_1, .slice pr4_2_1 lr4_2_1 cr4_2_1], .int .i64 31]) w12) ∧
  (((l1 : Int) != (l26 : Int)) = false →
  LoopP (fun I => I [.int .i64 0] w6) fun K vs w13 => ∃ n32 : Int, vs = [.int .i64 n32] ∧
  ((decide (n32 < (l1 : Int))) = true →
  ∃ a35 : Addr, p1 = some a35 ∧ (0 : Int) ≤ n32 ∧ n32 < (l1 : Int) ∧
  ∃ s36 : ByteArray, w13.cell? (Addr.add a35 (n32.toNat * 1)) = some (.string s36) ∧
  ∃ (p38 : Option Addr) (l38 c38 : Nat), w13.cell? ⟨k6, 2, none⟩ = some (.slice p38 l38 c38) ∧
  ∃ a41 : Addr, p38 = some a41 ∧ (0 : Int) ≤ n32 ∧ n32 < (l38 : Int) ∧
  St (Addr.add (Addr.add a41 (n32.toNat * 3)) 2) (.string s36) w13 fun w14 =>
  K [.int .i64 (IntKind.i64.wrap (n32 + 1))] w14) ∧
  ((decide (n32 < (l1 : Int))) = false →
  ∃ n45_0 : Int, ∃ n45_1 : Int, ∃ (p45_2 : Option Addr) (l45_2 c45_2 : Nat), (w13.cell? ⟨k6, 0, none⟩ = some (.int .u64 n45_0) ∧ w13.cell? ⟨k6, 1, none⟩ = some (.int .i64 n45_1) ∧ w13.cell? ⟨k6, 2, none⟩ = some (.slice p45_2 l45_2 c45_2)) ∧
  Calls Tryz.prog 105 #[.agg #[.int .u64 n45_0, .int .i64 n45_1, .slice p45_2 l45_2 c45_2]] w13 fun e_1 w15 => ∃ b46 : Bool, e_1 = .returned (.bool b46) ∧
  ((!b46) = true →
  St ⟨k4, 0, none⟩ (.int .u64 0) w15 fun w16 =>
  St ⟨k4, 1, none⟩ (.int .i64 0) w16 fun w17 =>
  St ⟨k4, 2, none⟩ (.slice none 0 0) w17 fun w18 =>
  ∃ nr4_0_2 : Int, ∃ nr4_1_2 : Int, ∃ (pr4_2_2 : Option Addr) (lr4_2_2 cr4_2_2 : Nat), (w18.cell? ⟨k4, 0, none⟩ = some (.int .u64 nr4_0_2) ∧ w18.cell? ⟨k4, 1, none⟩ = some (.int .i64 nr4_1_2) ∧ w18.cell? ⟨k4, 2, none⟩ = some (.slice pr4_2_2 lr4_2_2 cr4_2_2)) ∧
  R (.tuple #[.agg #[.int .u64 nr4_0_2, .int .i64 nr4_1_2, .slice pr4_2_2 lr4_2_2 cr4_2_2], .int .i64 31]) w18) ∧
  ((!b46) = false →
  Calls Tryz.prog 92 #[.slice p1 l1 c1, .string (ByteArray.mk #[])] w15 fun e_2 w19 => ∃ s51 : ByteArray, e_2 = .returned (.string s51) ∧
  Calls Tryz.prog 78 #[.string s51] w19 fun e_3 w20 => ∃ n52 : Int, e_3 = .returned (.int .u32 n52) ∧
  ((n52 != n13_1) = true →
  St ⟨k4, 0, none⟩ (.int .u64 0) w20 fun w21 =>
  St ⟨k4, 1, none⟩ (.int .i64 0) w21 fun w22 =>
  St ⟨k4, 2, none⟩ (.slice none 0 0) w22 fun w23 =>
  ∃ nr4_0_3 : Int, ∃ nr4_1_3 : Int, ∃ (pr4_2_3 : Option Addr) (lr4_2_3 cr4_2_3 : Nat), (w23.cell? ⟨k4, 0, none⟩ = some (.int .u64 nr4_0_3) ∧ w23.cell? ⟨k4, 1, none⟩ = some (.int .i64 nr4_1_3) ∧ w23.cell? ⟨k4, 2, none⟩ = some (.slice pr4_2_3 lr4_2_3 cr4_2_3)) ∧
  R (.tuple #[.agg #[.int .u64 nr4_0_3, .int .i64 nr4_1_3, .slice pr4_2_3 lr4_2_3 cr4_2_3], .int .i64 80]) w23) ∧
  ((n52 != n13_1) = false →
  ∃ n56_0 : Int, ∃ n56_1 : Int, ∃ (p56_2 : Option Addr) (l56_2 c56_2 : Nat), (w20.cell? ⟨k6, 0, none⟩ = some (.int .u64 n56_0) ∧ w20.cell? ⟨k6, 1, none⟩ = some (.int .i64 n56_1) ∧ w20.cell? ⟨k6, 2, none⟩ = some (.slice p56_2 l56_2 c56_2)) ∧
  St ⟨k4, 0, none⟩ (.int .u64 n56_0) w20 fun w24 =>
  St ⟨k4, 1, none⟩ (.int .i64 n56_1) w24 fun w25 =>
  St ⟨k4, 2, none⟩ (.slice p56_2 l56_2 c56_2) w25 fun w26 =>
  ∃ nr4_0_4 : Int, ∃ nr4_1_4 : Int, ∃ (pr4_2_4 : Option Addr) (lr4_2_4 cr4_2_4 : Nat), (w26.cell? ⟨k4, 0, none⟩ = some (.int .u64 nr4_0_4) ∧ w26.cell? ⟨k4, 1, none⟩ = some (.int .i64 nr4_1_4) ∧ w26.cell? ⟨k4, 2, none⟩ = some (.slice pr4_2_4 lr4_2_4 cr4_2_4)) ∧
  R (.tuple #[.agg #[.int .u64 nr4_0_4, .int .i64 nr4_1_4, .slice pr4_2_4 lr4_2_4 cr4_2_4], .int .i64 0]) w26)))))
theorem record_Decode_eq (s0 : ByteArray) (p1 : Option Addr) (l1 c1 : Nat) (w : World) (R : Value → World → Prop) : record_Decode s0 p1 l1 c1 w R = fnP Tryz.prog Tryz.f82 (.s .o (.s .o (.s .o (.s (.s .o (.b (.l [(32, .one (.int .i64))] .o))) .o)))) [.string s0, .slice p1 l1 c1] w R := by kernel_rfl
theorem record_Decode_calls {s0 : ByteArray} {p1 : Option Addr} {l1 c1 : Nat} {w : World} {R : Value → World → Prop} (h : record_Decode s0 p1 l1 c1 w R) : Calls Tryz.prog 82 #[.string s0, .slice p1 l1 c1] w fun e w1 => ∃ v, e = .returned v ∧ R v w1 := fnP_calls callable Tryz.func82 (record_Decode_eq s0 p1 l1 c1 w R ▸ h)

/-- revetment/record.May -/
def record_May (n0_0 : Int) (n0_1 : Int) (p0_2 : Option Addr) (l0_2 c0_2 : Nat) (w : World) (R : Value → World → Prop) : Prop :=
  Alloc #[.int .u64 n0_0, .int .i64 n0_1, .slice p0_2 l0_2 c0_2] 95 w fun k1 w1 =>
  ∃ n3_0 : Int, ∃ n3_1 : Int, ∃ (p3_2 : Option Addr) (l3_2 c3_2 : Nat), (w1.cell? ⟨k1, 0, none⟩ = some (.int .u64 n3_0) ∧ w1.cell? ⟨k1, 1, none⟩ = some (.int .i64 n3_1) ∧ w1.cell? ⟨k1, 2, none⟩ = some (.slice p3_2 l3_2 c3_2)) ∧
  Calls Tryz.prog 104 #[.agg #[.int .u64 n3_0, .int .i64 n3_1, .slice p3_2 l3_2 c3_2]] w1 fun e w2 => ∃ b4 : Bool, e = .returned (.bool b4) ∧
  (b4 = true →
  ∃ n6_0 : Int, ∃ n6_1 : Int, ∃ (p6_2 : Option Addr) (l6_2 c6_2 : Nat), (w2.cell? ⟨k1, 0, none⟩ = some (.int .u64 n6_0) ∧ w2.cell? ⟨k1, 1, none⟩ = some (.int .i64 n6_1) ∧ w2.cell? ⟨k1, 2, none⟩ = some (.slice p6_2 l6_2 c6_2)) ∧
  Calls Tryz.prog 105 #[.agg #[.int .u64 n6_0, .int .i64 n6_1, .slice p6_2 l6_2 c6_2]] w2 fun e_1 w3 => ∃ b7 : Bool, e_1 = .returned (.bool b7) ∧
  R (.bool b7) w3) ∧
  (b4 = false →
  R (.bool false) w2)
theorem record_May_eq (n0_0 : Int) (n0_1 : Int) (p0_2 : Option Addr) (l0_2 c0_2 : Nat) (w : World) (R : Value → World → Prop) : record_May n0_0 n0_1 p0_2 l0_2 c0_2 w R = fnP Tryz.prog Tryz.f90 .o [.agg #[.int .u64 n0_0, .int .i64 n0_1, .slice p0_2 l0_2 c0_2]] w R := by kernel_rfl
theorem record_May_calls {n0_0 : Int} {n0_1 : Int} {p0_2 : Option Addr} {l0_2 c0_2 : Nat} {w : World} {R : Value → World → Prop} (h : record_May n0_0 n0_1 p0_2 l0_2 c0_2 w R) : Calls Tryz.prog 90 #[.agg #[.int .u64 n0_0, .int .i64 n0_1, .slice p0_2 l0_2 c0_2]] w fun e w1 => ∃ v, e = .returned v ∧ R v w1 := fnP_calls callable Tryz.func90 (record_May_eq n0_0 n0_1 p0_2 l0_2 c0_2 w R ▸ h)

/-- (revetment/record.Record).head -/
def record_Record_head (n0_0 : Int) (n0_1 : Int) (p0_2 : Option Addr) (l0_2 c0_2 : Nat) (n1 : Int) (w : World) (R : Value → World → Prop) : Prop :=
  Alloc #[.int .u64 n0_0, .int .i64 n0_1, .slice p0_2 l0_2 c0_2] 95 w fun k2 w1 =>
  Alloc #[.pointer none, .slice none 0 0] 122 w1 fun k5 w2 =>
  Calls Tryz.prog 67 #[.pointer (some ⟨k5, 0, none⟩), .string (ByteArray.mk #[82, 86, 84, 74])] w2 fun e w3 => ∃ n10_0 : Int, ∃ v10_1 : Value, e = .returned (.tuple #[.int .i64 n10_0, v10_1]) ∧
  ∃ n12 : Int, w3.cell? ⟨k2, 0, none⟩ = some (.int .u64 n12) ∧
  ∃ n14 : Int, w3.cell? ⟨k2, 1, none⟩ = some (.int .i64 n14) ∧
  ∃ (p17 : Option Addr) (l17 c17 : Nat), w3.cell? ⟨k2, 2, none⟩ = some (.slice p17 l17 c17) ∧
  Alloc #[.int .u64 n12, .int .u64 8, .int .u64 (IntKind.u64.wrap n14), .int .u64 2, .int .u64 (IntKind.u64.wrap (l17 : Int)), .int .u64 1, .int .u64 (IntKind.u64.wrap n1), .int .u64 4] 57 w3 fun k22 w4 =>
  Calls Tryz.prog 111 #[.slice (some ⟨k22, 0, none⟩) 8 8] w4 fun e_1 w5 => ∃ s23 : ByteArray, e_1 = .returned (.string s23) ∧
  Calls Tryz.prog 67 #[.pointer (some ⟨k5, 0, none⟩), .string s23] w5 fun e_2 w6 => ∃ n24_0 : Int, ∃ v24_1 : Value, e_2 = .returned (.tuple #[.int .i64 n24_0, v24_1]) ∧
  ∃ (p26 : Option Addr) (l26 c26 : Nat), w6.cell? ⟨k2, 2, none⟩ = some (.slice p26 l26 c26) ∧
  LoopP (fun I => I [.int .i64 0] w6) fun K vs w7 => ∃ n28 : Int, vs = [.int .i64 n28] ∧
  ((decide (n28 < (l26 : Int))) = true →
  ∃ a30 : Addr, p26 = some a30 ∧ (0 : Int) ≤ n28 ∧ n28 < (l26 : Int) ∧
  ∃ n31_0 : Int, ∃ n31_1 : Int, ∃ s31_2 : ByteArray, (w7.cell? (Addr.add a30 (n28.toNat * 3)) = some (.int .i64 n31_0) ∧ w7.cell? (Addr.add (Addr.add a30 (n28.toNat * 3)) 1) = some (.int .i64 n31_1) ∧ w7.cell? (Addr.add (Addr.add a30 (n28.toNat * 3)) 2) = some (.string s31_2)) ∧
  Alloc #[.int .i64 0, .int .i64 0, .string (ByteArray.mk #[])] 71 w7 fun k7 w8 =>
  St ⟨k7, 0, none⟩ (.int .i64 n31_0) w8 fun w9 =>
  St ⟨k7, 1, none⟩ (.int .i64 n31_1) w9 fun w10 =>
  St ⟨k7, 2, none⟩ (.string s31_2) w10 fun w11 =>
  ∃ n33 : Int, w11.cell? ⟨k7, 0, none⟩ = some (.int .i64 n33) ∧
  ∃ n36 : Int, w11.cell? ⟨k7, 1, none⟩ = some (.int .i64 n36) ∧
  Calls Tryz.prog 112 #[.pointer (some ⟨k5, 0, none⟩), .int .u8 (IntKind.u8.wrap (bits2 .or .i64 (IntKind.i64.wrap (n33 * 2 ^ 2)) n36))] w11 fun e_3 w12 => ∃ v39 : Value, e_3 = .returned v39 ∧
  K [.int .i64 (IntKind.i64.wrap (n28 + 1))] w12) ∧
  ((decide (n28 < (l26 : Int))) = false →
  Calls Tryz.prog 69 #[.pointer (some ⟨k5, 0, none⟩)] w7 fun e_4 w13 => ∃ s42 : ByteArray, e_4 = .returned (.string s42) ∧
  Calls Tryz.prog 71 #[.string s42, .int .i64 64] w13 fun e_5 w14 => ∃ s43_0 : ByteArray, ∃ b43_1 : Bool, e_5 = .returned (.tuple #[.string s43_0, .bool b43_1]) ∧
  R (.string s43_0) w14)
theorem record_Record_head_eq (n0_0 : Int) (n0_1 : Int) (p0_2 : Option Addr) (l0_2 c0_2 : Nat) (n1 : Int) (w : World) (R : Value → World → Prop) : record_Record_head n0_0 n0_1 p0_2 l0_2 c0_2 n1 w R = fnP Tryz.prog Tryz.f91 (.s .o (.s .o (.s .o (.s .o (.s (.s .o (.b (.l [(28, .one (.int .i64))] .o))) .o))))) [.agg #[.int .u64 n0_0, .int .i64 n0_1, .slice p0_2 l0_2 c0_2], .int .u32 n1] w R := by kernel_rfl
theorem record_Record_head_calls {n0_0 : Int} {n0_1 : Int} {p0_2 : Option Addr} {l0_2 c0_2 : Nat} {n1 : Int} {w : World} {R : Value → World → Prop} (h : record_Record_head n0_0 n0_1 p0_2 l0_2 c0_2 n1 w R) : Calls Tryz.prog 91 #[.agg #[.int .u64 n0_0, .int .i64 n0_1, .slice p0_2 l0_2 c0_2], .int .u32 n1] w fun e w1 => ∃ v, e = .returned v ∧ R v w1 := fnP_calls callable Tryz.func91 (record_Record_head_eq n0_0 n0_1 p0_2 l0_2 c0_2 n1 w R ▸ h)

/-- strings.Join -/
def strings_Join (p0 : Option Addr) (l0 c0 : Nat) (s1 : ByteArray) (w : World) (R : Value → World → Prop) : Prop :=
  (((l0 : Int) == 0) = true →
  R (.string (ByteArray.mk #[])) w) ∧
  (((l0 : Int) == 0) = false →
  (((l0 : Int) == 1) = true →
  ∃ a18 : Addr, p0 = some a18 ∧ (0 : Int) ≤ 0 ∧ 0 < (l0 : Int) ∧
  ∃ s19 : ByteArray, w.cell? a18 = some (.string s19) ∧
  R (.string s19) w) ∧
  (((l0 : Int) == 1) = false →
  Join (fun vs w1 => ∃ n5 : Int, vs = [.int .i64 n5] ∧
  LoopP (fun I => I [.int .i64 n5, .int .i64 0] w1) fun K vs_1 w2 => ∃ n5_1 : Int, ∃ n41 : Int, vs_1 = [.int .i64 n5_1, .int .i64 n41] ∧
  ((decide (n41 < (l0 : Int))) = true →
  ∃ a43 : Addr, p0 = some a43 ∧ (0 : Int) ≤ n41 ∧ n41 < (l0 : Int) ∧
  ∃ s44 : ByteArray, w2.cell? (Addr.add a43 (n41.toNat * 1)) = some (.string s44) ∧
  ((decide ((s44.size : Int) > (IntKind.i64.wrap (9223372036854775807 - n5_1)))) = true →
  False) ∧
  ((decide ((s44.size : Int) > (IntKind.i64.wrap (9223372036854775807 - n5_1)))) = false →
  K [.int .i64 (IntKind.i64.wrap (n5_1 + (s44.size : Int))), .int .i64 (IntKind.i64.wrap (n41 + 1))] w2)) ∧
  ((decide (n41 < (l0 : Int))) = false →
  Alloc #[.pointer none, .slice none 0 0] 122 w2 fun k8 w3 =>
  Calls Tryz.prog 66 #[.pointer (some ⟨k8, 0, none⟩), .int .i64 n5_1] w3 fun e w4 => e = .returned (.tuple #[]) ∧
  ∃ a59 : Addr, p0 = some a59 ∧ (0 : Int) ≤ 0 ∧ 0 < (l0 : Int) ∧
  ∃ s60 : ByteArray, w4.cell? a59 = some (.string s60) ∧
  Calls Tryz.prog 67 #[.pointer (some ⟨k8, 0, none⟩), .string s60] w4 fun e_1 w5 => ∃ n61_0 : Int, ∃ v61_1 : Value, e_1 = .returned (.tuple #[.int .i64 n61_0, v61_1]) ∧
  ∃ (p63 : Option Addr) (l63 c63 : Nat), ∃ w6, (Instr.sliceAt 42 (.slice p0 l0 c0) (some (.int .i64 1)) none none).run Tryz.prog w5 = .ok (.slice p63 l63 c63) w6 ∧
  LoopP (fun I_1 => I_1 [.int .i64 0] w6) fun K_1 vs_2 w7 => ∃ n65 : Int, vs_2 = [.int .i64 n65] ∧
  ((decide (n65 < (l63 : Int))) = true →
  ∃ a67 : Addr, p63 = some a67 ∧ (0 : Int) ≤ n65 ∧ n65 < (l63 : Int) ∧
  ∃ s68 : ByteArray, w7.cell? (Addr.add a67 (n65.toNat * 1)) = some (.string s68) ∧
  Calls Tryz.prog 67 #[.pointer (some ⟨k8, 0, none⟩), .string s1] w7 fun e_2 w8 => ∃ n70_0 : Int, ∃ v70_1 : Value, e_2 = .returned (.tuple #[.int .i64 n70_0, v70_1]) ∧
  Calls Tryz.prog 67 #[.pointer (some ⟨k8, 0, none⟩), .string s68] w8 fun e_3 w9 => ∃ n72_0 : Int, ∃ v72_1 : Value, e_3 = .returned (.tuple #[.int .i64 n72_0, v72_1]) ∧
  K_1 [.int .i64 (IntKind.i64.wrap (n65 + 1))] w9) ∧
  ((decide (n65 < (l63 : Int))) = false →
  Calls Tryz.prog 69 #[.pointer (some ⟨k8, 0, none⟩)] w7 fun e_4 w10 => ∃ s74 : ByteArray, e_4 = .returned (.string s74) ∧
  R (.string s74) w10))) fun J =>
  ((decide ((s1.size : Int) > 0)) = true →
  (IntKind.i64.wrap ((l0 : Int) - 1)) ≠ 0 ∧
  ((decide ((s1.size : Int) ≥ (IntKind.i64.wrap (Int.tdiv 9223372036854775807 (IntKind.i64.wrap ((l0 : Int) - 1)))))) = true →
  False) ∧
  ((decide ((s1.size : Int) ≥ (IntKind.i64.wrap (Int.tdiv 9223372036854775807 (IntKind.i64.wrap ((l0 : Int) - 1)))))) = false →
  J [.int .i64 (IntKind.i64.wrap (0 + (IntKind.i64.wrap ((s1.size : Int) * (IntKind.i64.wrap ((l0 : Int) - 1))))))] w)) ∧
  ((decide ((s1.size : Int) > 0)) = false →
  J [.int .i64 0] w)))
theorem strings_Join_eq (p0 : Option Addr) (l0 c0 : Nat) (s1 : ByteArray) (w : World) (R : Value → World → Prop) : strings_Join p0 l0 c0 s1 w R = fnP Tryz.prog Tryz.f92 (.s .o (.s .o (.s .o (.j [(5, .one (.int .i64))] .o (.s (.s .o (.b (.l [(5, .one (.int .i64)), (41, .one (.int .i64))] .o))) (.s .o (.s .o (.s .o (.s (.s .o (.b (.l [(65, .one (.int .i64))] .o))) .o))))))))) [.slice p0 l0 c0, .string s1] w R := by kernel_rfl
theorem strings_Join_calls {p0 : Option Addr} {l0 c0 : Nat} {s1 : ByteArray} {w : World} {R : Value → World → Prop} (h : strings_Join p0 l0 c0 s1 w R) : Calls Tryz.prog 92 #[.slice p0 l0 c0, .string s1] w fun e w1 => ∃ v, e = .returned v ∧ R v w1 := fnP_calls callable Tryz.func92 (strings_Join_eq p0 l0 c0 s1 w R ▸ h)

/-- internal/stringslite.HasPrefix -/
def internal_stringslite_HasPrefix (s0 : ByteArray) (s1 : ByteArray) (w : World) (R : Value → World → Prop) : Prop :=
  ((decide ((s0.size : Int) ≥ (s1.size : Int))) = true →
  ∃ s14 : ByteArray, ∃ w1, (Instr.sliceAt 9 (.string s0) none (some (.int .i64 (s1.size : Int))) none).run Tryz.prog w = .ok (.string s14) w1 ∧
  R (.bool (s14.toList == s1.toList)) w1) ∧
  ((decide ((s0.size : Int) ≥ (s1.size : Int))) = false →
  R (.bool false) w)
theorem internal_stringslite_HasPrefix_eq (s0 : ByteArray) (s1 : ByteArray) (w : World) (R : Value → World → Prop) : internal_stringslite_HasPrefix s0 s1 w R = fnP Tryz.prog Tryz.f97 .o [.string s0, .string s1] w R := by kernel_rfl
theorem internal_stringslite_HasPrefix_calls {s0 : ByteArray} {s1 : ByteArray} {w : World} {R : Value → World → Prop} (h : internal_stringslite_HasPrefix s0 s1 w R) : Calls Tryz.prog 97 #[.string s0, .string s1] w fun e w1 => ∃ v, e = .returned v ∧ R v w1 := fnP_calls callable Tryz.func97 (internal_stringslite_HasPrefix_eq s0 s1 w R ▸ h)

/-- revetment/pack.Fits -/
def pack_Fits (n0 : Int) (n1 : Int) (w : World) (R : Value → World → Prop) : Prop :=
  ((n1 == 8) = true →
  R (.bool true) w) ∧
  ((n1 == 8) = false →
  ((decide (n1 > 0)) = true →
  ((decide (n1 < 8)) = true →
  (0 : Int) ≤ (IntKind.i64.wrap (8 * n1)) ∧
  R (.bool ((Int.fdiv n0 (2 ^ (min (IntKind.i64.wrap (8 * n1)).toNat 64))) == 0)) w) ∧
  ((decide (n1 < 8)) = false →
  R (.bool false) w)) ∧
  ((decide (n1 > 0)) = false →
  R (.bool false) w))
theorem pack_Fits_eq (n0 : Int) (n1 : Int) (w : World) (R : Value → World → Prop) : pack_Fits n0 n1 w R = fnP Tryz.prog Tryz.f100 .o [.int .u64 n0, .int .i64 n1] w R := by kernel_rfl
theorem pack_Fits_calls {n0 : Int} {n1 : Int} {w : World} {R : Value → World → Prop} (h : pack_Fits n0 n1 w R) : Calls Tryz.prog 100 #[.int .u64 n0, .int .i64 n1] w fun e w1 => ∃ v, e = .returned v ∧ R v w1 := fnP_calls callable Tryz.func100 (pack_Fits_eq n0 n1 w R ▸ h)

/-- revetment/crc.More -/
def crc_More (n0 : Int) (s1 : ByteArray) (w : World) (R : Value → World → Prop) : Prop :=
  Calls Tryz.prog 115 #[] w fun e w1 => ∃ z9 : Array Value, z9.size = 16 ∧ e = .returned (.agg z9) ∧
  Alloc #[.int .u32 0, .int .u32 0, .int .u32 0, .int .u32 0, .int .u32 0, .int .u32 0, .int .u32 0, .int .u32 0, .int .u32 0, .int .u32 0, .int .u32 0, .int .u32 0, .int .u32 0, .int .u32 0, .int .u32 0, .int .u32 0] 170 w1 fun k5 w2 =>
  ∃ w3, (Instr.storeAt 170 (.pointer (some ⟨k5, 0, none⟩)) (.agg z9)).run Tryz.prog w2 = .ok () w3 ∧
  Alloc #[.int .u32 0] 131 w3 fun k6 w4 =>
  St ⟨k6, 0, none⟩ (.int .u32 (bits2 .xor .u32 IntKind.u32.max n0)) w4 fun w5 =>
  LoopP (fun I => I [.int .i64 0] w5) fun K vs w6 => ∃ n15 : Int, vs = [.int .i64 n15] ∧
  ((decide (n15 < (s1.size : Int))) = true →
  ∃ D : World → Prop, D w6.drew ∧
  ∃ n18 : Int, (∀ w, D w → w.cell? ⟨k6, 0, none⟩ = some (.int .u32 n18)) ∧
  ∃ n21 : Int, (∀ w, D w → (Instr.index 9 (.string s1) (.int .i64 n15)).run Tryz.prog w = .ok (.int .u8 n21) w) ∧
  St ⟨k6, 0, none⟩ (.int .u32 (bits2 .xor .u32 n18 (IntKind.u32.wrap n21))) w6.drew fun w7 =>
  Calls Tryz.prog 116 #[.pointer (some ⟨k6, 0, none⟩), .pointer (some ⟨k5, 0, none⟩)] w7 fun e_1 w8 => e_1 = .returned (.tuple #[]) ∧
  Calls Tryz.prog 116 #[.pointer (some ⟨k6, 0, none⟩), .pointer (some ⟨k5, 0, none⟩)] w8 fun e_2 w9 => e_2 = .returned (.tuple #[]) ∧
  K [.int .i64 (IntKind.i64.wrap (n15 + 1))] w9) ∧
  ((decide (n15 < (s1.size : Int))) = false →
  ∃ n29 : Int, w6.cell? ⟨k6, 0, none⟩ = some (.int .u32 n29) ∧
  R (.int .u32 (bits2 .xor .u32 IntKind.u32.max n29)) w6)
theorem crc_More_eq (n0 : Int) (s1 : ByteArray) (w : World) (R : Value → World → Prop) : crc_More n0 s1 w R = fnP Tryz.prog Tryz.f102 (.s .o (.s .o (.s .o (.s .o (.s (.s .o (.b (.l [(15, .one (.int .i64))] .o))) .o))))) [.int .u32 n0, .string s1] w R := by kernel_rfl
theorem crc_More_calls {n0 : Int} {s1 : ByteArray} {w : World} {R : Value → World → Prop} (h : crc_More n0 s1 w R) : Calls Tryz.prog 102 #[.int .u32 n0, .string s1] w fun e w1 => ∃ v, e = .returned v ∧ R v w1 := fnP_calls callable Tryz.func102 (crc_More_eq n0 s1 w R ▸ h)

/-- revetment/pack.places$1 -/
def pack_places_1 (v0 : Value) (k1 : Addr) (w : World) (R : Value → World → Prop) : Prop :=
  ∃ (p6 : Option Addr) (l6 c6 : Nat), w.cell? k1 = some (.slice p6 l6 c6) ∧
  LoopP (fun I => I [.int .i64 0] w) fun K vs w1 => ∃ n8 : Int, vs = [.int .i64 n8] ∧
  ((decide (n8 < (l6 : Int))) = true →
  ∃ a11 : Addr, p6 = some a11 ∧ (0 : Int) ≤ n8 ∧ n8 < (l6 : Int) ∧
  ∃ n12 : Int, w1.cell? (Addr.add a11 (n8.toNat * 1)) = some (.int .i64 n12) ∧
  LoopP (fun I_1 => I_1 [.int .i64 0] w1) fun K_1 vs_1 w2 => ∃ n14 : Int, vs_1 = [.int .i64 n14] ∧
  ((decide (n14 < n12)) = true →
  CallF Tryz.prog v0 [.int .i64 n8, .int .i64 (IntKind.i64.wrap (8 * n14))] w2 fun e w3 => ∃ b21 : Bool, e = .returned (.bool b21) ∧
  ((!b21) = true →
  R (.tuple #[]) w3) ∧
  ((!b21) = false →
  K_1 [.int .i64 (IntKind.i64.wrap (n14 + 1))] w3)) ∧
  ((decide (n14 < n12)) = false →
  K [.int .i64 (IntKind.i64.wrap (n8 + 1))] w2)) ∧
  ((decide (n8 < (l6 : Int))) = false →
  R (.tuple #[]) w1)
theorem pack_places_1_eq (v0 : Value) (k1 : Addr) (w : World) (R : Value → World → Prop) : pack_places_1 v0 k1 w R = fnP Tryz.prog Tryz.f103 (.s .o (.b (.l [(8, .one (.int .i64))] (.s .o (.s .o (.s (.b (.s .o (.s .o (.b (.l [(14, .one (.int .i64))] .o))))) .o)))))) [v0, .pointer (some k1)] w R := by kernel_rfl
theorem pack_places_1_calls {v0 : Value} {k1 : Addr} {w : World} {R : Value → World → Prop} (h : pack_places_1 v0 k1 w R) : Calls Tryz.prog 103 #[v0, .pointer (some k1)] w fun e w1 => ∃ v, e = .returned v ∧ R v w1 := fnP_calls callable Tryz.func103 (pack_places_1_eq v0 k1 w R ▸ h)

/-- (revetment/record.Record).placed -/
def record_Record_placed (n0_0 : Int) (n0_1 : Int) (p0_2 : Option Addr) (l0_2 c0_2 : Nat) (w : World) (R : Value → World → Prop) : Prop :=
  Alloc #[.int .u64 n0_0, .int .i64 n0_1, .slice p0_2 l0_2 c0_2] 95 w fun k1 w1 =>
  ∃ n8 : Int, w1.cell? ⟨k1, 1, none⟩ = some (.int .i64 n8) ∧
  ((decide (n8 < 0)) = true →
  R (.bool false) w1) ∧
  ((decide (n8 < 0)) = false →
  ∃ n12 : Int, w1.cell? ⟨k1, 1, none⟩ = some (.int .i64 n12) ∧
  ((decide (n12 ≥ 256)) = true →
  R (.bool false) w1) ∧
  ((decide (n12 ≥ 256)) = false →
  ∃ (p17 : Option Addr) (l17 c17 : Nat), w1.cell? ⟨k1, 2, none⟩ = some (.slice p17 l17 c17) ∧
  (((l17 : Int) == 0) = true →
  R (.bool false) w1) ∧
  (((l17 : Int) == 0) = false →
  ∃ (p23 : Option Addr) (l23 c23 : Nat), w1.cell? ⟨k1, 2, none⟩ = some (.slice p23 l23 c23) ∧
  ((decide ((l23 : Int) > 40)) = true →
  R (.bool false) w1) ∧
  ((decide ((l23 : Int) > 40)) = false →
  AllocM w1 fun k27 w2 =>
  ∃ (p29 : Option Addr) (l29 c29 : Nat), w2.cell? ⟨k1, 2, none⟩ = some (.slice p29 l29 c29) ∧
  LoopP (fun I => I [.int .i64 0] w2) fun K vs w3 => ∃ n31 : Int, vs = [.int .i64 n31] ∧
  ((decide (n31 < (l29 : Int))) = true →
  ∃ a33 : Addr, p29 = some a33 ∧ (0 : Int) ≤ n31 ∧ n31 < (l29 : Int) ∧
  ∃ n34_0 : Int, ∃ n34_1 : Int, ∃ s34_2 : ByteArray, (w3.cell? (Addr.add a33 (n31.toNat * 3)) = some (.int .i64 n34_0) ∧ w3.cell? (Addr.add (Addr.add a33 (n31.toNat * 3)) 1) = some (.int .i64 n34_1) ∧ w3.cell? (Addr.add (Addr.add a33 (n31.toNat * 3)) 2) = some (.string s34_2)) ∧
  Alloc #[.int .i64 0, .int .i64 0, .string (ByteArray.mk #[])] 71 w3 fun k5 w4 =>
  St ⟨k5, 0, none⟩ (.int .i64 n34_0) w4 fun w5 =>
  St ⟨k5, 1, none⟩ (.int .i64 n34_1) w5 fun w6 =>
  St ⟨k5, 2, none⟩ (.string s34_2) w6 fun w7 =>
  ∃ n36 : Int, w7.cell? ⟨k5, 0, none⟩ = some (.int .i64 n36) ∧
  ∃ n38 : Int, w7.cell? ⟨k5, 1, none⟩ = some (.int .i64 n38) ∧
  Alloc #[.int .i64 0, .int .i64 0] 173 w7 fun k6 w8 =>
  St ⟨k6, 0, none⟩ (.int .i64 n36) w8 fun w9 =>
  St ⟨k6, 1, none⟩ (.int .i64 n38) w9 fun w10 =>
  ∃ n41 : Int, w10.cell? ⟨k5, 0, none⟩ = some (.int .i64 n41) ∧
  ((decide (n41 < 0)) = true →
  R (.bool false) w10) ∧
  ((decide (n41 < 0)) = false →
  ∃ n45 : Int, w10.cell? ⟨k5, 0, none⟩ = some (.int .i64 n45) ∧
  ((decide (n45 ≥ 10)) = true →
  R (.bool false) w10) ∧
  ((decide (n45 ≥ 10)) = false →
  ∃ n50 : Int, w10.cell? ⟨k5, 1, none⟩ = some (.int .i64 n50) ∧
  ((decide (n50 < 0)) = true →
  R (.bool false) w10) ∧
  ((decide (n50 < 0)) = false →
  ∃ n55 : Int, w10.cell? ⟨k5, 1, none⟩ = some (.int .i64 n55) ∧
  ((decide (n55 ≥ 4)) = true →
  R (.bool false) w10) ∧
  ((decide (n55 ≥ 4)) = false →
  ∃ n60_0 : Int, ∃ n60_1 : Int, (w10.cell? ⟨k6, 0, none⟩ = some (.int .i64 n60_0) ∧ w10.cell? ⟨k6, 1, none⟩ = some (.int .i64 n60_1)) ∧
  ∃ b61 : Bool, ∃ w11, (Instr.lookup 172 (.map (some k27)) (.agg #[.int .i64 n60_0, .int .i64 n60_1]) false).run Tryz.prog w10 = .ok (.bool b61) w11 ∧
  (b61 = true →
  R (.bool false) w11) ∧
  (b61 = false →
  ∃ n64_0 : Int, ∃ n64_1 : Int, (w11.cell? ⟨k6, 0, none⟩ = some (.int .i64 n64_0) ∧ w11.cell? ⟨k6, 1, none⟩ = some (.int .i64 n64_1)) ∧
  ∃ w12, (Instr.mapUpdate 172 (.map (some k27)) (.agg #[.int .i64 n64_0, .int .i64 n64_1]) (.bool true)).run Tryz.prog w11 = .ok () w12 ∧
  K [.int .i64 (IntKind.i64.wrap (n31 + 1))] w12)))))) ∧
  ((decide (n31 < (l29 : Int))) = false →
  R (.bool true) w3)))))
theorem record_Record_placed_eq (n0_0 : Int) (n0_1 : Int) (p0_2 : Option Addr) (l0_2 c0_2 : Nat) (w : World) (R : Value → World → Prop) : record_Record_placed n0_0 n0_1 p0_2 l0_2 c0_2 w R = fnP Tryz.prog Tryz.f104 (.s .o (.s .o (.s .o (.s (.s .o (.b (.l [(31, .one (.int .i64))] .o))) .o)))) [.agg #[.int .u64 n0_0, .int .i64 n0_1, .slice p0_2 l0_2 c0_2]] w R := by kernel_rfl
theorem record_Record_placed_calls {n0_0 : Int} {n0_1 : Int} {p0_2 : Option Addr} {l0_2 c0_2 : Nat} {w : World} {R : Value → World → Prop} (h : record_Record_placed n0_0 n0_1 p0_2 l0_2 c0_2 w R) : Calls Tryz.prog 104 #[.agg #[.int .u64 n0_0, .int .i64 n0_1, .slice p0_2 l0_2 c0_2]] w fun e w1 => ∃ v, e = .returned v ∧ R v w1 := fnP_calls callable Tryz.func104 (record_Record_placed_eq n0_0 n0_1 p0_2 l0_2 c0_2 w R ▸ h)

/-- (revetment/record.Record).loaded -/
def record_Record_loaded (n0_0 : Int) (n0_1 : Int) (p0_2 : Option Addr) (l0_2 c0_2 : Nat) (w : World) (R : Value → World → Prop) : Prop :=
  Alloc #[.int .u64 n0_0, .int .i64 n0_1, .slice p0_2 l0_2 c0_2] 95 w fun k1 w1 =>
  ∃ (p6 : Option Addr) (l6 c6 : Nat), w1.cell? ⟨k1, 2, none⟩ = some (.slice p6 l6 c6) ∧
  LoopP (fun I => I [.int .i64 0] w1) fun K vs w2 => ∃ n8 : Int, vs = [.int .i64 n8] ∧
  ((decide (n8 < (l6 : Int))) = true →
  ∃ a10 : Addr, p6 = some a10 ∧ (0 : Int) ≤ n8 ∧ n8 < (l6 : Int) ∧
  ∃ n11_0 : Int, ∃ n11_1 : Int, ∃ s11_2 : ByteArray, (w2.cell? (Addr.add a10 (n8.toNat * 3)) = some (.int .i64 n11_0) ∧ w2.cell? (Addr.add (Addr.add a10 (n8.toNat * 3)) 1) = some (.int .i64 n11_1) ∧ w2.cell? (Addr.add (Addr.add a10 (n8.toNat * 3)) 2) = some (.string s11_2)) ∧
  Alloc #[.int .i64 0, .int .i64 0, .string (ByteArray.mk #[])] 71 w2 fun k4 w3 =>
  St ⟨k4, 0, none⟩ (.int .i64 n11_0) w3 fun w4 =>
  St ⟨k4, 1, none⟩ (.int .i64 n11_1) w4 fun w5 =>
  St ⟨k4, 2, none⟩ (.string s11_2) w5 fun w6 =>
  ∃ s13 : ByteArray, w6.cell? ⟨k4, 2, none⟩ = some (.string s13) ∧
  (((s13.size : Int) != 64) = true →
  R (.bool false) w6) ∧
  (((s13.size : Int) != 64) = false →
  K [.int .i64 (IntKind.i64.wrap (n8 + 1))] w6)) ∧
  ((decide (n8 < (l6 : Int))) = false →
  R (.bool true) w2)
theorem record_Record_loaded_eq (n0_0 : Int) (n0_1 : Int) (p0_2 : Option Addr) (l0_2 c0_2 : Nat) (w : World) (R : Value → World → Prop) : record_Record_loaded n0_0 n0_1 p0_2 l0_2 c0_2 w R = fnP Tryz.prog Tryz.f105 (.s .o (.s (.s .o (.b (.l [(8, .one (.int .i64))] .o))) .o)) [.agg #[.int .u64 n0_0, .int .i64 n0_1, .slice p0_2 l0_2 c0_2]] w R := by kernel_rfl
theorem record_Record_loaded_calls {n0_0 : Int} {n0_1 : Int} {p0_2 : Option Addr} {l0_2 c0_2 : Nat} {w : World} {R : Value → World → Prop} (h : record_Record_loaded n0_0 n0_1 p0_2 l0_2 c0_2 w R) : Calls Tryz.prog 105 #[.agg #[.int .u64 n0_0, .int .i64 n0_1, .slice p0_2 l0_2 c0_2]] w fun e w1 => ∃ v, e = .returned v ∧ R v w1 := fnP_calls callable Tryz.func105 (record_Record_loaded_eq n0_0 n0_1 p0_2 l0_2 c0_2 w R ▸ h)

/-- revetment/record.packed -/
def record_packed (p0 : Option Addr) (l0 c0 : Nat) (w : World) (R : Value → World → Prop) : Prop :=
  LoopP (fun I => I [.slice none 0 0, .slice none 0 0, .int .i64 0] w) fun K vs w1 => ∃ (p3 : Option Addr) (l3 c3 : Nat), ∃ (p4 : Option Addr) (l4 c4 : Nat), ∃ n5 : Int, vs = [.slice p3 l3 c3, .slice p4 l4 c4, .int .i64 n5] ∧
  ((decide ((IntKind.i64.wrap (n5 + 1)) < (l0 : Int))) = true →
  ∃ D : World → Prop, D w1.drew ∧
  ∃ a18 : Addr, p0 = some a18 ∧ (0 : Int) ≤ n5 ∧ n5 < (l0 : Int) ∧
  ∃ n19 : Int, (∀ w, D w → w.cell? (Addr.add a18 (n5.toNat * 1)) = some (.int .u64 n19)) ∧
  ∃ a26 : Addr, p0 = some a26 ∧ (0 : Int) ≤ IntKind.i64.wrap (n5 + 1) ∧ (IntKind.i64.wrap (n5 + 1)) < (l0 : Int) ∧
  ∃ n27 : Int, (∀ w, D w → w.cell? (Addr.add a26 ((IntKind.i64.wrap (n5 + 1)).toNat * 1)) = some (.int .u64 n27)) ∧
  (Alloc #[.int .u64 n19] 57 w1.drew fun k20 w2 =>
  D w2 ∧
  (∃ (p21 : Option Addr) (l21 c21 : Nat), ∃ w3, (builtin .append #[90, 90] 90 #[false, false] #[.slice p3 l3 c3, .slice (some ⟨k20, 0, none⟩) 1 1]).run Tryz.prog w2 = .ok (.value (.slice p21 l21 c21)) w3 ∧
  D w3 ∧
  Alloc #[.int .i64 (IntKind.i64.wrap n27)] 3 w3 fun k29 w4 =>
  D w4 ∧
  ∃ (p30 : Option Addr) (l30 c30 : Nat), ∃ w5, (builtin .append #[93, 93] 93 #[false, false] #[.slice p4 l4 c4, .slice (some ⟨k29, 0, none⟩) 1 1]).run Tryz.prog w4 = .ok (.value (.slice p30 l30 c30)) w5 ∧
  D w5 ∧
  K [.slice p21 l21 c21, .slice p30 l30 c30, .int .i64 (IntKind.i64.wrap (n5 + 2))] w5) ∧
  (Alloc #[.int .i64 (IntKind.i64.wrap n27)] 3 w2 fun k29_1 w6 =>
  D w6 ∧
  ∃ (p21_1 : Option Addr) (l21_1 c21_1 : Nat), ∃ w7, (builtin .append #[90, 90] 90 #[false, false] #[.slice p3 l3 c3, .slice (some ⟨k20, 0, none⟩) 1 1]).run Tryz.prog w6 = .ok (.value (.slice p21_1 l21_1 c21_1)) w7 ∧
  D w7 ∧
  ∃ (p30_1 : Option Addr) (l30_1 c30_1 : Nat), ∃ w8, (builtin .append #[93, 93] 93 #[false, false] #[.slice p4 l4 c4, .slice (some ⟨k29_1, 0, none⟩) 1 1]).run Tryz.prog w7 = .ok (.value (.slice p30_1 l30_1 c30_1)) w8 ∧
  D w8 ∧
  K [.slice p21_1 l21_1 c21_1, .slice p30_1 l30_1 c30_1, .int .i64 (IntKind.i64.wrap (n5 + 2))] w8)) ∧
  (Alloc #[.int .i64 (IntKind.i64.wrap n27)] 3 w1.drew fun k29_2 w9 =>
  D w9 ∧
  Alloc #[.int .u64 n19] 57 w9 fun k20_1 w10 =>
  D w10 ∧
  ∃ (p21_2 : Option Addr) (l21_2 c21_2 : Nat), ∃ w11, (builtin .append #[90, 90] 90 #[false, false] #[.slice p3 l3 c3, .slice (some ⟨k20_1, 0, none⟩) 1 1]).run Tryz.prog w10 = .ok (.value (.slice p21_2 l21_2 c21_2)) w11 ∧
  D w11 ∧
  ∃ (p30_2 : Option Addr) (l30_2 c30_2 : Nat), ∃ w12, (builtin .append #[93, 93] 93 #[false, false] #[.slice p4 l4 c4, .slice (some ⟨k29_2, 0, none⟩) 1 1]).run Tryz.prog w11 = .ok (.value (.slice p30_2 l30_2 c30_2)) w12 ∧
  D w12 ∧
  K [.slice p21_2 l21_2 c21_2, .slice p30_2 l30_2 c30_2, .int .i64 (IntKind.i64.wrap (n5 + 2))] w12)) ∧
  ((decide ((IntKind.i64.wrap (n5 + 1)) < (l0 : Int))) = false →
  Calls Tryz.prog 70 #[.slice p3 l3 c3, .slice p4 l4 c4] w1 fun e w13 => ∃ s34_0 : ByteArray, ∃ n34_1 : Int, e = .returned (.tuple #[.string s34_0, .int .i64 n34_1]) ∧
  R (.string s34_0) w13)
theorem record_packed_eq (p0 : Option Addr) (l0 c0 : Nat) (w : World) (R : Value → World → Prop) : record_packed p0 l0 c0 w R = fnP Tryz.prog Tryz.f111 (.s .o (.s .o (.s .o (.s (.s .o (.b (.l [(3, .one .slice), (4, .one .slice), (5, .one (.int .i64))] .o))) .o)))) [.slice p0 l0 c0] w R := by kernel_rfl
theorem record_packed_calls {p0 : Option Addr} {l0 c0 : Nat} {w : World} {R : Value → World → Prop} (h : record_packed p0 l0 c0 w R) : Calls Tryz.prog 111 #[.slice p0 l0 c0] w fun e w1 => ∃ v, e = .returned v ∧ R v w1 := fnP_calls callable Tryz.func111 (record_packed_eq p0 l0 c0 w R ▸ h)

/-- revetment/crc.table -/
def crc_table (w : World) (R : Value → World → Prop) : Prop :=
  Alloc #[.int .u32 0, .int .u32 0, .int .u32 0, .int .u32 0, .int .u32 0, .int .u32 0, .int .u32 0, .int .u32 0, .int .u32 0, .int .u32 0, .int .u32 0, .int .u32 0, .int .u32 0, .int .u32 0, .int .u32 0, .int .u32 0] 170 w fun k0 w1 =>
  Alloc #[.int .u32 0, .int .u32 0, .int .u32 0, .int .u32 0, .int .u32 0, .int .u32 0, .int .u32 0, .int .u32 0, .int .u32 0, .int .u32 0, .int .u32 0, .int .u32 0, .int .u32 0, .int .u32 0, .int .u32 0, .int .u32 0] 170 w1 fun k1 w2 =>
  LoopP (fun I => I [.int .i64 0] w2) fun K vs w3 => ∃ n4 : Int, vs = [.int .i64 n4] ∧
  ((decide (n4 < 16)) = true →
  LoopP (fun I_1 => I_1 [.int .u32 (IntKind.u32.wrap n4), .int .i64 0] w3) fun K_1 vs_1 w4 => ∃ n3 : Int, ∃ n9 : Int, vs_1 = [.int .u32 n3, .int .i64 n9] ∧
  ((decide (n9 < 4)) = true →
  K_1 [.int .u32 (bits2 .xor .u32 (Int.fdiv n3 (2 ^ 1)) (IntKind.u32.wrap (2197175160 * (bits2 .and .u32 n3 1)))), .int .i64 (IntKind.i64.wrap (n9 + 1))] w4) ∧
  ((decide (n9 < 4)) = false →
  (0 : Int) ≤ n4 ∧ n4 < (16 : Int) ∧
  St (Addr.add ⟨k1, 0, none⟩ (n4.toNat * 1)) (.int .u32 n3) w4 fun w5 =>
  K [.int .i64 (IntKind.i64.wrap (n4 + 1))] w5)) ∧
  ((decide (n4 < 16)) = false →
  ∃ z22 : Array Value, z22.size = 16 ∧ bigAt w3 ⟨k1, 0, none⟩ z22 ∧
  ∃ w6, (Instr.storeAt 170 (.pointer (some ⟨k0, 0, none⟩)) (.agg z22)).run Tryz.prog w3 = .ok () w6 ∧
  ∃ zr0 : Array Value, zr0.size = 16 ∧ bigAt w6 ⟨k0, 0, none⟩ zr0 ∧
  R (.agg zr0) w6)
theorem crc_table_eq (w : World) (R : Value → World → Prop) : crc_table w R = fnP Tryz.prog Tryz.f115 (.s .o (.s .o (.s (.s .o (.b (.l [(4, .one (.int .i64))] (.s .o (.s .o (.s (.b (.s .o (.s .o (.s (.s .o (.b (.l [(3, .one (.int .u32)), (9, .one (.int .i64))] .o))) .o)))) .o)))))) .o))) [] w R := by kernel_rfl
theorem crc_table_calls {w : World} {R : Value → World → Prop} (h : crc_table w R) : Calls Tryz.prog 115 #[] w fun e w1 => ∃ v, e = .returned v ∧ R v w1 := fnP_calls callable Tryz.func115 (crc_table_eq w R ▸ h)

/-- revetment/crc.More$1 -/
def crc_More_1 (k0 : Addr) (k1 : Addr) (w : World) (R : Value → World → Prop) : Prop :=
  ∃ D : World → Prop, D w.drew ∧
  ∃ n2 : Int, (∀ w, D w → w.cell? k0 = some (.int .u32 n2)) ∧
  ∃ n4 : Int, (∀ w, D w → w.cell? k0 = some (.int .u32 n4)) ∧
  (0 : Int) ≤ (bits2 .and .u32 n4 15) ∧ (bits2 .and .u32 n4 15) < (16 : Int) ∧
  ∃ n7 : Int, (∀ w, D w → w.cell? (Addr.add k1 ((bits2 .and .u32 n4 15).toNat * 1)) = some (.int .u32 n7)) ∧
  St k0 (.int .u32 (bits2 .xor .u32 (Int.fdiv n2 (2 ^ 4)) n7)) w.drew fun w1 =>
  R (.tuple #[]) w1
theorem crc_More_1_eq (k0 : Addr) (k1 : Addr) (w : World) (R : Value → World → Prop) : crc_More_1 k0 k1 w R = fnP Tryz.prog Tryz.f116 .o [.pointer (some k0), .pointer (some k1)] w R := by kernel_rfl
theorem crc_More_1_calls {k0 : Addr} {k1 : Addr} {w : World} {R : Value → World → Prop} (h : crc_More_1 k0 k1 w R) : Calls Tryz.prog 116 #[.pointer (some k0), .pointer (some k1)] w fun e w1 => ∃ v, e = .returned v ∧ R v w1 := fnP_calls callable Tryz.func116 (crc_More_1_eq k0 k1 w R ▸ h)

/-- cmp.Less[int] -/
def cmp_Less_int (n0 : Int) (n1 : Int) (w : World) (R : Value → World → Prop) : Prop :=
  Calls Tryz.prog 136 #[.int .i64 n0] w fun e w1 => ∃ b6 : Bool, e = .returned (.bool b6) ∧
  (b6 = true →
  Calls Tryz.prog 136 #[.int .i64 n1] w1 fun e_1 w2 => ∃ b9 : Bool, e_1 = .returned (.bool b9) ∧
  ((!b9) = true →
  R (.bool true) w2) ∧
  ((!b9) = false →
  R (.bool (decide (n0 < n1))) w2)) ∧
  (b6 = false →
  R (.bool (decide (n0 < n1))) w1)
theorem cmp_Less_int_eq (n0 : Int) (n1 : Int) (w : World) (R : Value → World → Prop) : cmp_Less_int n0 n1 w R = fnP Tryz.prog Tryz.f126 .o [.int .i64 n0, .int .i64 n1] w R := by kernel_rfl
theorem cmp_Less_int_calls {n0 : Int} {n1 : Int} {w : World} {R : Value → World → Prop} (h : cmp_Less_int n0 n1 w R) : Calls Tryz.prog 126 #[.int .i64 n0, .int .i64 n1] w fun e w1 => ∃ v, e = .returned v ∧ R v w1 := fnP_calls callable Tryz.func126 (cmp_Less_int_eq n0 n1 w R ▸ h)

/-- cmp.isNaN[int] -/
def cmp_isNaN_int (n0 : Int) (w : World) (R : Value → World → Prop) : Prop :=
  R (.bool (n0 != n0)) w
theorem cmp_isNaN_int_eq (n0 : Int) (w : World) (R : Value → World → Prop) : cmp_isNaN_int n0 w R = fnP Tryz.prog Tryz.f136 .o [.int .i64 n0] w R := by kernel_rfl
theorem cmp_isNaN_int_calls {n0 : Int} {w : World} {R : Value → World → Prop} (h : cmp_isNaN_int n0 w R) : Calls Tryz.prog 136 #[.int .i64 n0] w fun e w1 => ∃ v, e = .returned v ∧ R v w1 := fnP_calls callable Tryz.func136 (cmp_isNaN_int_eq n0 w R ▸ h)

/-- (*strings.Builder).WriteString -/
def strings_Builder_WriteString (p0 : Option Addr) (s1 : ByteArray) (w : World) (R : Value → World → Prop) : Prop :=
  Calls Tryz.prog 98 #[.pointer p0] w fun e w1 => e = .returned (.tuple #[]) ∧
  ∃ a10 : Addr, p0 = some a10 ∧
  ∃ (p12 : Option Addr) (l12 c12 : Nat), w1.cell? (a10.add 1) = some (.slice p12 l12 c12) ∧
  ∃ (p14 : Option Addr) (l14 c14 : Nat), ∃ w2, (builtin .append #[44, 9] 44 #[false, false] #[.slice p12 l12 c12, .string s1]).run Tryz.prog w1 = .ok (.value (.slice p14 l14 c14)) w2 ∧
  ∃ a15 : Addr, p0 = some a15 ∧
  St (a15.add 1) (.slice p14 l14 c14) w2 fun w3 =>
  R (.tuple #[.int .i64 (s1.size : Int), .nilIface]) w3
theorem strings_Builder_WriteString_eq (p0 : Option Addr) (s1 : ByteArray) (w : World) (R : Value → World → Prop) : strings_Builder_WriteString p0 s1 w R = fnP Tryz.prog Tryz.f67 .o [.pointer p0, .string s1] w R := by kernel_rfl
theorem strings_Builder_WriteString_calls {p0 : Option Addr} {s1 : ByteArray} {w : World} {R : Value → World → Prop} (h : strings_Builder_WriteString p0 s1 w R) : Calls Tryz.prog 67 #[.pointer p0, .string s1] w fun e w1 => ∃ v, e = .returned v ∧ R v w1 := fnP_calls callable Tryz.func67 (strings_Builder_WriteString_eq p0 s1 w R ▸ h)

/-- (*strings.Builder).WriteByte -/
def strings_Builder_WriteByte (p0 : Option Addr) (n1 : Int) (w : World) (R : Value → World → Prop) : Prop :=
  Calls Tryz.prog 98 #[.pointer p0] w fun e w1 => e = .returned (.tuple #[]) ∧
  ∃ a9 : Addr, p0 = some a9 ∧
  ∃ (p11 : Option Addr) (l11 c11 : Nat), w1.cell? (a9.add 1) = some (.slice p11 l11 c11) ∧
  Alloc #[.int .u8 n1] 5 w1 fun k13 w2 =>
  ∃ (p14 : Option Addr) (l14 c14 : Nat), ∃ w3, (builtin .append #[44, 44] 44 #[false, false] #[.slice p11 l11 c11, .slice (some ⟨k13, 0, none⟩) 1 1]).run Tryz.prog w2 = .ok (.value (.slice p14 l14 c14)) w3 ∧
  ∃ a15 : Addr, p0 = some a15 ∧
  St (a15.add 1) (.slice p14 l14 c14) w3 fun w4 =>
  R (.nilIface) w4
theorem strings_Builder_WriteByte_eq (p0 : Option Addr) (n1 : Int) (w : World) (R : Value → World → Prop) : strings_Builder_WriteByte p0 n1 w R = fnP Tryz.prog Tryz.f112 .o [.pointer p0, .int .u8 n1] w R := by kernel_rfl
theorem strings_Builder_WriteByte_calls {p0 : Option Addr} {n1 : Int} {w : World} {R : Value → World → Prop} (h : strings_Builder_WriteByte p0 n1 w R) : Calls Tryz.prog 112 #[.pointer p0, .int .u8 n1] w fun e w1 => ∃ v, e = .returned v ∧ R v w1 := fnP_calls callable Tryz.func112 (strings_Builder_WriteByte_eq p0 n1 w R ▸ h)

end Go.Proofs.YtbecjmfcppginaaGreat
