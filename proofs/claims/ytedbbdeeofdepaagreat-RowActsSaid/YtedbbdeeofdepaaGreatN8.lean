import Derived.Test.YtedbbdeeofdepaaGreatN2
import Derived.Test.YtedbbdeeofdepaaGreatN7
/-! The formulas of Go functions, printed by a program of this session (shprint.py), each tied to the loaded function by the kernel. -/
namespace Go.Proofs.YtedbbdeeofdepaaGreat
open Go.Sh
set_option linter.unusedVariables false
set_option maxRecDepth 100000
/-- revetment/revetmentlaw16.RowActs -/
def revetmentlaw16_RowActs (n0 : Int) (n1 : Int) (n2 : Int) (b3 : Bool) (p4 : Option Addr) (l4 c4 : Nat) (w : World) (R : Value → World → Prop) : Prop :=
  Calls Tryz.prog 23 #[.slice p4 l4 c4] w fun e w1 => ∃ b36 : Bool, e = .returned (.bool b36) ∧
  (b36 = true →
  Calls Tryz.prog 7 #[] w1 fun e_1 w2 => ∃ b41 : Bool, e_1 = .returned (.bool b41) ∧
  R (.bool b41) w2) ∧
  (b36 = false →
  Calls Tryz.prog 7 #[] w1 fun e_2 w3 => ∃ b38 : Bool, e_2 = .returned (.bool b38) ∧
  ((!b38) = true →
  Calls Tryz.prog 7 #[] w3 fun e_3 w4 => ∃ b41_1 : Bool, e_3 = .returned (.bool b41_1) ∧
  R (.bool b41_1) w4) ∧
  ((!b38) = false →
  Calls Tryz.prog 8 #[.int .u8 n0, .int .u8 n1, .int .u8 n2] w3 fun e_4 w5 => ∃ n46_0 : Int, ∃ n46_1 : Int, ∃ n46_2 : Int, e_4 = .returned (.agg #[.int .i64 n46_0, .int .i64 n46_1, .int .i64 n46_2]) ∧
  Calls Tryz.prog 9 #[.agg #[.int .i64 n46_0, .int .i64 n46_1, .int .i64 n46_2], .bool b3] w5 fun e_5 w6 => ∃ n48_0_0 : Int, ∃ n48_0_1 : Int, ∃ n48_0_2 : Int, ∃ (p48_0_3 : Option Addr) (l48_0_3 c48_0_3 : Nat), ∃ (p48_0_4 : Option Addr) (l48_0_4 c48_0_4 : Nat), ∃ n48_1_0 : Int, ∃ n48_1_1 : Int, ∃ n48_1_2 : Int, ∃ (p48_1_3 : Option Addr) (l48_1_3 c48_1_3 : Nat), ∃ (p48_1_4 : Option Addr) (l48_1_4 c48_1_4 : Nat), e_5 = .returned (.tuple #[.agg #[.int .i64 n48_0_0, .int .i64 n48_0_1, .int .i64 n48_0_2, .slice p48_0_3 l48_0_3 c48_0_3, .slice p48_0_4 l48_0_4 c48_0_4], .agg #[.int .i64 n48_1_0, .int .i64 n48_1_1, .int .i64 n48_1_2, .slice p48_1_3 l48_1_3 c48_1_3, .slice p48_1_4 l48_1_4 c48_1_4]]) ∧
  Alloc #[.int .i64 0, .int .i64 0, .int .i64 0, .slice none 0 0, .slice none 0 0] 30 w6 fun k11 w7 =>
  Alloc #[.int .i64 0, .int .i64 0, .int .i64 0, .slice none 0 0, .slice none 0 0] 33 w7 fun k12 w8 =>
  St ⟨k11, 0, none⟩ (.int .i64 n48_0_0) w8 fun w9 =>
  St ⟨k11, 1, none⟩ (.int .i64 n48_0_1) w9 fun w10 =>
  St ⟨k11, 2, none⟩ (.int .i64 n48_0_2) w10 fun w11 =>
  St ⟨k11, 3, none⟩ (.slice p48_0_3 l48_0_3 c48_0_3) w11 fun w12 =>
  St ⟨k11, 4, none⟩ (.slice p48_0_4 l48_0_4 c48_0_4) w12 fun w13 =>
  St ⟨k12, 0, none⟩ (.int .i64 n48_1_0) w13 fun w14 =>
  St ⟨k12, 1, none⟩ (.int .i64 n48_1_1) w14 fun w15 =>
  St ⟨k12, 2, none⟩ (.int .i64 n48_1_2) w15 fun w16 =>
  St ⟨k12, 3, none⟩ (.slice p48_1_3 l48_1_3 c48_1_3) w16 fun w17 =>
  St ⟨k12, 4, none⟩ (.slice p48_1_4 l48_1_4 c48_1_4) w17 fun w18 =>
  LoopP (fun I => I [.int .i64 0] w18) fun K vs w19 => ∃ n13 : Int, vs = [.int .i64 n13] ∧
  ((decide (n13 < (l4 : Int))) = true →
  ∃ a59 : Addr, p4 = some a59 ∧ (0 : Int) ≤ n13 ∧ n13 < (l4 : Int) ∧
  ∃ n60_0 : Int, ∃ n60_1 : Int, ∃ n60_2 : Int, ∃ n60_3 : Int, ∃ n60_4 : Int, ∃ s60_5 : ByteArray, (w19.cell? (Addr.add a59 (n13.toNat * 6)) = some (.int .i64 n60_0) ∧ w19.cell? (Addr.add (Addr.add a59 (n13.toNat * 6)) 1) = some (.int .i64 n60_1) ∧ w19.cell? (Addr.add (Addr.add a59 (n13.toNat * 6)) 2) = some (.int .i64 n60_2) ∧ w19.cell? (Addr.add (Addr.add a59 (n13.toNat * 6)) 3) = some (.int .i64 n60_3) ∧ w19.cell? (Addr.add (Addr.add a59 (n13.toNat * 6)) 4) = some (.int .u8 n60_4) ∧ w19.cell? (Addr.add (Addr.add a59 (n13.toNat * 6)) 5) = some (.string s60_5)) ∧
  Alloc #[.int .i64 0, .int .i64 0, .int .i64 0, .int .i64 0, .int .u8 0, .string (ByteArray.mk #[])] 57 w19 fun k14 w20 =>
  St ⟨k14, 0, none⟩ (.int .i64 n60_0) w20 fun w21 =>
  St ⟨k14, 1, none⟩ (.int .i64 n60_1) w21 fun w22 =>
  St ⟨k14, 2, none⟩ (.int .i64 n60_2) w22 fun w23 =>
  St ⟨k14, 3, none⟩ (.int .i64 n60_3) w23 fun w24 =>
  St ⟨k14, 4, none⟩ (.int .u8 n60_4) w24 fun w25 =>
  St ⟨k14, 5, none⟩ (.string s60_5) w25 fun w26 =>
  ∃ n61_0 : Int, ∃ n61_1 : Int, ∃ n61_2 : Int, ∃ (p61_3 : Option Addr) (l61_3 c61_3 : Nat), ∃ (p61_4 : Option Addr) (l61_4 c61_4 : Nat), (w26.cell? ⟨k11, 0, none⟩ = some (.int .i64 n61_0) ∧ w26.cell? ⟨k11, 1, none⟩ = some (.int .i64 n61_1) ∧ w26.cell? ⟨k11, 2, none⟩ = some (.int .i64 n61_2) ∧ w26.cell? ⟨k11, 3, none⟩ = some (.slice p61_3 l61_3 c61_3) ∧ w26.cell? ⟨k11, 4, none⟩ = some (.slice p61_4 l61_4 c61_4)) ∧
  ∃ n62_0 : Int, ∃ n62_1 : Int, ∃ n62_2 : Int, ∃ (p62_3 : Option Addr) (l62_3 c62_3 : Nat), ∃ (p62_4 : Option Addr) (l62_4 c62_4 : Nat), (w26.cell? ⟨k12, 0, none⟩ = some (.int .i64 n62_0) ∧ w26.cell? ⟨k12, 1, none⟩ = some (.int .i64 n62_1) ∧ w26.cell? ⟨k12, 2, none⟩ = some (.int .i64 n62_2) ∧ w26.cell? ⟨k12, 3, none⟩ = some (.slice p62_3 l62_3 c62_3) ∧ w26.cell? ⟨k12, 4, none⟩ = some (.slice p62_4 l62_4 c62_4)) ∧
  ∃ n63_0 : Int, ∃ n63_1 : Int, ∃ n63_2 : Int, ∃ n63_3 : Int, ∃ n63_4 : Int, ∃ s63_5 : ByteArray, (w26.cell? ⟨k14, 0, none⟩ = some (.int .i64 n63_0) ∧ w26.cell? ⟨k14, 1, none⟩ = some (.int .i64 n63_1) ∧ w26.cell? ⟨k14, 2, none⟩ = some (.int .i64 n63_2) ∧ w26.cell? ⟨k14, 3, none⟩ = some (.int .i64 n63_3) ∧ w26.cell? ⟨k14, 4, none⟩ = some (.int .u8 n63_4) ∧ w26.cell? ⟨k14, 5, none⟩ = some (.string s63_5)) ∧
  Calls Tryz.prog 24 #[.agg #[.int .i64 n61_0, .int .i64 n61_1, .int .i64 n61_2, .slice p61_3 l61_3 c61_3, .slice p61_4 l61_4 c61_4], .agg #[.int .i64 n62_0, .int .i64 n62_1, .int .i64 n62_2, .slice p62_3 l62_3 c62_3, .slice p62_4 l62_4 c62_4], .agg #[.int .i64 n63_0, .int .i64 n63_1, .int .i64 n63_2, .int .i64 n63_3, .int .u8 n63_4, .string s63_5]] w26 fun e_6 w27 => ∃ b64 : Bool, e_6 = .returned (.bool b64) ∧
  ((!b64) = true →
  R (.bool false) w27) ∧
  ((!b64) = false →
  ∃ n67_0 : Int, ∃ n67_1 : Int, ∃ n67_2 : Int, ∃ (p67_3 : Option Addr) (l67_3 c67_3 : Nat), ∃ (p67_4 : Option Addr) (l67_4 c67_4 : Nat), (w27.cell? ⟨k11, 0, none⟩ = some (.int .i64 n67_0) ∧ w27.cell? ⟨k11, 1, none⟩ = some (.int .i64 n67_1) ∧ w27.cell? ⟨k11, 2, none⟩ = some (.int .i64 n67_2) ∧ w27.cell? ⟨k11, 3, none⟩ = some (.slice p67_3 l67_3 c67_3) ∧ w27.cell? ⟨k11, 4, none⟩ = some (.slice p67_4 l67_4 c67_4)) ∧
  ∃ n69 : Int, w27.cell? ⟨k14, 1, none⟩ = some (.int .i64 n69) ∧
  ∃ n71 : Int, w27.cell? ⟨k14, 2, none⟩ = some (.int .i64 n71) ∧
  Calls Tryz.prog 17 #[.agg #[.int .i64 n67_0, .int .i64 n67_1, .int .i64 n67_2, .slice p67_3 l67_3 c67_3, .slice p67_4 l67_4 c67_4], .int .i64 n69, .int .i64 n71] w27 fun e_7 w28 => ∃ (p72_0 : Option Addr) (l72_0 c72_0 : Nat), ∃ (p72_1 : Option Addr) (l72_1 c72_1 : Nat), ∃ n72_2 : Int, e_7 = .returned (.tuple #[.slice p72_0 l72_0 c72_0, .slice p72_1 l72_1 c72_1, .int .i64 n72_2]) ∧
  ∃ n77_0 : Int, ∃ n77_1 : Int, ∃ n77_2 : Int, ∃ (p77_3 : Option Addr) (l77_3 c77_3 : Nat), ∃ (p77_4 : Option Addr) (l77_4 c77_4 : Nat), (w28.cell? ⟨k12, 0, none⟩ = some (.int .i64 n77_0) ∧ w28.cell? ⟨k12, 1, none⟩ = some (.int .i64 n77_1) ∧ w28.cell? ⟨k12, 2, none⟩ = some (.int .i64 n77_2) ∧ w28.cell? ⟨k12, 3, none⟩ = some (.slice p77_3 l77_3 c77_3) ∧ w28.cell? ⟨k12, 4, none⟩ = some (.slice p77_4 l77_4 c77_4)) ∧
  ∃ n79 : Int, w28.cell? ⟨k14, 1, none⟩ = some (.int .i64 n79) ∧
  ∃ n81 : Int, w28.cell? ⟨k14, 2, none⟩ = some (.int .i64 n81) ∧
  Calls Tryz.prog 25 #[.agg #[.int .i64 n77_0, .int .i64 n77_1, .int .i64 n77_2, .slice p77_3 l77_3 c77_3, .slice p77_4 l77_4 c77_4], .int .i64 n79, .int .i64 n81] w28 fun e_8 w29 => ∃ (p82_0 : Option Addr) (l82_0 c82_0 : Nat), ∃ (p82_1 : Option Addr) (l82_1 c82_1 : Nat), ∃ n82_2 : Int, e_8 = .returned (.tuple #[.slice p82_0 l82_0 c82_0, .slice p82_1 l82_1 c82_1, .int .i64 n82_2]) ∧
  ∃ n87_0 : Int, ∃ n87_1 : Int, ∃ n87_2 : Int, ∃ (p87_3 : Option Addr) (l87_3 c87_3 : Nat), ∃ (p87_4 : Option Addr) (l87_4 c87_4 : Nat), (w29.cell? ⟨k11, 0, none⟩ = some (.int .i64 n87_0) ∧ w29.cell? ⟨k11, 1, none⟩ = some (.int .i64 n87_1) ∧ w29.cell? ⟨k11, 2, none⟩ = some (.int .i64 n87_2) ∧ w29.cell? ⟨k11, 3, none⟩ = some (.slice p87_3 l87_3 c87_3) ∧ w29.cell? ⟨k11, 4, none⟩ = some (.slice p87_4 l87_4 c87_4)) ∧
  ∃ n89 : Int, w29.cell? ⟨k14, 1, none⟩ = some (.int .i64 n89) ∧
  ∃ n91 : Int, w29.cell? ⟨k14, 2, none⟩ = some (.int .i64 n91) ∧
  Calls Tryz.prog 18 #[.agg #[.int .i64 n87_0, .int .i64 n87_1, .int .i64 n87_2, .slice p87_3 l87_3 c87_3, .slice p87_4 l87_4 c87_4], .int .i64 n89, .int .i64 n91] w29 fun e_9 w30 => ∃ (p92_0 : Option Addr) (l92_0 c92_0 : Nat), ∃ (p92_1 : Option Addr) (l92_1 c92_1 : Nat), ∃ n92_2 : Int, e_9 = .returned (.tuple #[.slice p92_0 l92_0 c92_0, .slice p92_1 l92_1 c92_1, .int .i64 n92_2]) ∧
  ∃ n97_0 : Int, ∃ n97_1 : Int, ∃ n97_2 : Int, ∃ (p97_3 : Option Addr) (l97_3 c97_3 : Nat), ∃ (p97_4 : Option Addr) (l97_4 c97_4 : Nat), (w30.cell? ⟨k12, 0, none⟩ = some (.int .i64 n97_0) ∧ w30.cell? ⟨k12, 1, none⟩ = some (.int .i64 n97_1) ∧ w30.cell? ⟨k12, 2, none⟩ = some (.int .i64 n97_2) ∧ w30.cell? ⟨k12, 3, none⟩ = some (.slice p97_3 l97_3 c97_3) ∧ w30.cell? ⟨k12, 4, none⟩ = some (.slice p97_4 l97_4 c97_4)) ∧
  ∃ n99 : Int, w30.cell? ⟨k14, 1, none⟩ = some (.int .i64 n99) ∧
  ∃ n101 : Int, w30.cell? ⟨k14, 2, none⟩ = some (.int .i64 n101) ∧
  Calls Tryz.prog 26 #[.agg #[.int .i64 n97_0, .int .i64 n97_1, .int .i64 n97_2, .slice p97_3 l97_3 c97_3, .slice p97_4 l97_4 c97_4], .int .i64 n99, .int .i64 n101] w30 fun e_10 w31 => ∃ (p102_0 : Option Addr) (l102_0 c102_0 : Nat), ∃ (p102_1 : Option Addr) (l102_1 c102_1 : Nat), ∃ n102_2 : Int, e_10 = .returned (.tuple #[.slice p102_0 l102_0 c102_0, .slice p102_1 l102_1 c102_1, .int .i64 n102_2]) ∧
  ∃ n107_0 : Int, ∃ n107_1 : Int, ∃ n107_2 : Int, ∃ (p107_3 : Option Addr) (l107_3 c107_3 : Nat), ∃ (p107_4 : Option Addr) (l107_4 c107_4 : Nat), (w31.cell? ⟨k11, 0, none⟩ = some (.int .i64 n107_0) ∧ w31.cell? ⟨k11, 1, none⟩ = some (.int .i64 n107_1) ∧ w31.cell? ⟨k11, 2, none⟩ = some (.int .i64 n107_2) ∧ w31.cell? ⟨k11, 3, none⟩ = some (.slice p107_3 l107_3 c107_3) ∧ w31.cell? ⟨k11, 4, none⟩ = some (.slice p107_4 l107_4 c107_4)) ∧
  ∃ n109 : Int, w31.cell? ⟨k14, 1, none⟩ = some (.int .i64 n109) ∧
  ∃ n111 : Int, w31.cell? ⟨k14, 2, none⟩ = some (.int .i64 n111) ∧
  ∃ n113 : Int, w31.cell? ⟨k14, 3, none⟩ = some (.int .i64 n113) ∧
  Calls Tryz.prog 16 #[.agg #[.int .i64 n107_0, .int .i64 n107_1, .int .i64 n107_2, .slice p107_3 l107_3 c107_3, .slice p107_4 l107_4 c107_4], .int .i64 n109, .int .i64 n111, .int .i64 n113] w31 fun e_11 w32 => ∃ s114_0 : ByteArray, ∃ n114_1 : Int, e_11 = .returned (.tuple #[.string s114_0, .int .i64 n114_1]) ∧
  ∃ n118_0 : Int, ∃ n118_1 : Int, ∃ n118_2 : Int, ∃ (p118_3 : Option Addr) (l118_3 c118_3 : Nat), ∃ (p118_4 : Option Addr) (l118_4 c118_4 : Nat), (w32.cell? ⟨k12, 0, none⟩ = some (.int .i64 n118_0) ∧ w32.cell? ⟨k12, 1, none⟩ = some (.int .i64 n118_1) ∧ w32.cell? ⟨k12, 2, none⟩ = some (.int .i64 n118_2) ∧ w32.cell? ⟨k12, 3, none⟩ = some (.slice p118_3 l118_3 c118_3) ∧ w32.cell? ⟨k12, 4, none⟩ = some (.slice p118_4 l118_4 c118_4)) ∧
  ∃ n120 : Int, w32.cell? ⟨k14, 1, none⟩ = some (.int .i64 n120) ∧
  ∃ n122 : Int, w32.cell? ⟨k14, 2, none⟩ = some (.int .i64 n122) ∧
  ∃ n124 : Int, w32.cell? ⟨k14, 3, none⟩ = some (.int .i64 n124) ∧
  Calls Tryz.prog 27 #[.agg #[.int .i64 n118_0, .int .i64 n118_1, .int .i64 n118_2, .slice p118_3 l118_3 c118_3, .slice p118_4 l118_4 c118_4], .int .i64 n120, .int .i64 n122, .int .i64 n124] w32 fun e_12 w33 => ∃ s125_0 : ByteArray, ∃ n125_1 : Int, e_12 = .returned (.tuple #[.string s125_0, .int .i64 n125_1]) ∧
  ∃ n129_0 : Int, ∃ n129_1 : Int, ∃ n129_2 : Int, ∃ (p129_3 : Option Addr) (l129_3 c129_3 : Nat), ∃ (p129_4 : Option Addr) (l129_4 c129_4 : Nat), (w33.cell? ⟨k11, 0, none⟩ = some (.int .i64 n129_0) ∧ w33.cell? ⟨k11, 1, none⟩ = some (.int .i64 n129_1) ∧ w33.cell? ⟨k11, 2, none⟩ = some (.int .i64 n129_2) ∧ w33.cell? ⟨k11, 3, none⟩ = some (.slice p129_3 l129_3 c129_3) ∧ w33.cell? ⟨k11, 4, none⟩ = some (.slice p129_4 l129_4 c129_4)) ∧
  ∃ n131 : Int, w33.cell? ⟨k14, 1, none⟩ = some (.int .i64 n131) ∧
  Calls Tryz.prog 22 #[.agg #[.int .i64 n129_0, .int .i64 n129_1, .int .i64 n129_2, .slice p129_3 l129_3 c129_3, .slice p129_4 l129_4 c129_4], .int .i64 n131] w33 fun e_13 w34 => ∃ (p132_0 : Option Addr) (l132_0 c132_0 : Nat), ∃ n132_1 : Int, e_13 = .returned (.tuple #[.slice p132_0 l132_0 c132_0, .int .i64 n132_1]) ∧
  ∃ n136_0 : Int, ∃ n136_1 : Int, ∃ n136_2 : Int, ∃ (p136_3 : Option Addr) (l136_3 c136_3 : Nat), ∃ (p136_4 : Option Addr) (l136_4 c136_4 : Nat), (w34.cell? ⟨k12, 0, none⟩ = some (.int .i64 n136_0) ∧ w34.cell? ⟨k12, 1, none⟩ = some (.int .i64 n136_1) ∧ w34.cell? ⟨k12, 2, none⟩ = some (.int .i64 n136_2) ∧ w34.cell? ⟨k12, 3, none⟩ = some (.slice p136_3 l136_3 c136_3) ∧ w34.cell? ⟨k12, 4, none⟩ = some (.slice p136_4 l136_4 c136_4)) ∧
  ∃ n138 : Int, w34.cell? ⟨k14, 1, none⟩ = some (.int .i64 n138) ∧
  Calls Tryz.prog 28 #[.agg #[.int .i64 n136_0, .int .i64 n136_1, .int .i64 n136_2, .slice p136_3 l136_3 c136_3, .slice p136_4 l136_4 c136_4], .int .i64 n138] w34 fun e_14 w35 => ∃ (p139_0 : Option Addr) (l139_0 c139_0 : Nat), ∃ n139_1 : Int, e_14 = .returned (.tuple #[.slice p139_0 l139_0 c139_0, .int .i64 n139_1]) ∧
  Calls Tryz.prog 29 #[.slice p72_0 l72_0 c72_0, .slice p82_0 l82_0 c82_0] w35 fun e_15 w36 => ∃ b144 : Bool, e_15 = .returned (.bool b144) ∧
  ((!b144) = true →
  R (.bool false) w36) ∧
  ((!b144) = false →
  Calls Tryz.prog 30 #[.slice p72_1 l72_1 c72_1, .slice p82_1 l82_1 c82_1] w36 fun e_16 w37 => ∃ b149 : Bool, e_16 = .returned (.bool b149) ∧
  ((!b149) = true →
  R (.bool false) w37) ∧
  ((!b149) = false →
  ((n72_2 != n82_2) = true →
  R (.bool false) w37) ∧
  ((n72_2 != n82_2) = false →
  Calls Tryz.prog 29 #[.slice p92_0 l92_0 c92_0, .slice p102_0 l102_0 c102_0] w37 fun e_17 w38 => ∃ b160 : Bool, e_17 = .returned (.bool b160) ∧
  ((!b160) = true →
  R (.bool false) w38) ∧
  ((!b160) = false →
  Calls Tryz.prog 30 #[.slice p92_1 l92_1 c92_1, .slice p102_1 l102_1 c102_1] w38 fun e_18 w39 => ∃ b166 : Bool, e_18 = .returned (.bool b166) ∧
  ((!b166) = true →
  R (.bool false) w39) ∧
  ((!b166) = false →
  ((n92_2 != n102_2) = true →
  R (.bool false) w39) ∧
  ((n92_2 != n102_2) = false →
  ((!(s114_0.toList == s125_0.toList)) = true →
  R (.bool false) w39) ∧
  ((!(s114_0.toList == s125_0.toList)) = false →
  ((n114_1 != n125_1) = true →
  R (.bool false) w39) ∧
  ((n114_1 != n125_1) = false →
  Calls Tryz.prog 30 #[.slice p132_0 l132_0 c132_0, .slice p139_0 l139_0 c139_0] w39 fun e_19 w40 => ∃ b187 : Bool, e_19 = .returned (.bool b187) ∧
  ((!b187) = true →
  R (.bool false) w40) ∧
  ((!b187) = false →
  ((n132_1 != n139_1) = true →
  R (.bool false) w40) ∧
  ((n132_1 != n139_1) = false →
  K [.int .i64 (IntKind.i64.wrap (n13 + 1))] w40)))))))))))) ∧
  ((decide (n13 < (l4 : Int))) = false →
  ∃ D : World → Prop, D w19.drew ∧
  ∃ n195_0 : Int, ∃ n195_1 : Int, ∃ n195_2 : Int, ∃ (p195_3 : Option Addr) (l195_3 c195_3 : Nat), ∃ (p195_4 : Option Addr) (l195_4 c195_4 : Nat), (∀ w, D w → w.cell? ⟨k11, 0, none⟩ = some (.int .i64 n195_0) ∧ w.cell? ⟨k11, 1, none⟩ = some (.int .i64 n195_1) ∧ w.cell? ⟨k11, 2, none⟩ = some (.int .i64 n195_2) ∧ w.cell? ⟨k11, 3, none⟩ = some (.slice p195_3 l195_3 c195_3) ∧ w.cell? ⟨k11, 4, none⟩ = some (.slice p195_4 l195_4 c195_4)) ∧
  Calls Tryz.prog 21 #[.agg #[.int .i64 n195_0, .int .i64 n195_1, .int .i64 n195_2, .slice p195_3 l195_3 c195_3, .slice p195_4 l195_4 c195_4]] w19.drew fun e_20 w41 => ∃ b196 : Bool, e_20 = .returned (.bool b196) ∧
  D w41 ∧
  ∃ n197_0 : Int, ∃ n197_1 : Int, ∃ n197_2 : Int, ∃ (p197_3 : Option Addr) (l197_3 c197_3 : Nat), ∃ (p197_4 : Option Addr) (l197_4 c197_4 : Nat), (∀ w, D w → w.cell? ⟨k12, 0, none⟩ = some (.int .i64 n197_0) ∧ w.cell? ⟨k12, 1, none⟩ = some (.int .i64 n197_1) ∧ w.cell? ⟨k12, 2, none⟩ = some (.int .i64 n197_2) ∧ w.cell? ⟨k12, 3, none⟩ = some (.slice p197_3 l197_3 c197_3) ∧ w.cell? ⟨k12, 4, none⟩ = some (.slice p197_4 l197_4 c197_4)) ∧
  Calls Tryz.prog 31 #[.agg #[.int .i64 n197_0, .int .i64 n197_1, .int .i64 n197_2, .slice p197_3 l197_3 c197_3, .slice p197_4 l197_4 c197_4]] w41 fun e_21 w42 => ∃ b198 : Bool, e_21 = .returned (.bool b198) ∧
  D w42 ∧
  R (.bool (b196 == b198)) w42)))
theorem revetmentlaw16_RowActs_eq (n0 : Int) (n1 : Int) (n2 : Int) (b3 : Bool) (p4 : Option Addr) (l4 c4 : Nat) (w : World) (R : Value → World → Prop) : revetmentlaw16_RowActs n0 n1 n2 b3 p4 l4 c4 w R = fnP Tryz.prog Tryz.f6 (.s .o (.s .o (.s .o (.s (.s .o (.b (.l [(13, .one (.int .i64))] .o))) .o)))) [.int .u8 n0, .int .u8 n1, .int .u8 n2, .bool b3, .slice p4 l4 c4] w R := by kernel_rfl
theorem revetmentlaw16_RowActs_calls {n0 : Int} {n1 : Int} {n2 : Int} {b3 : Bool} {p4 : Option Addr} {l4 c4 : Nat} {w : World} {R : Value → World → Prop} (h : revetmentlaw16_RowActs n0 n1 n2 b3 p4 l4 c4 w R) : Calls Tryz.prog 6 #[.int .u8 n0, .int .u8 n1, .int .u8 n2, .bool b3, .slice p4 l4 c4] w fun e w1 => ∃ v, e = .returned v ∧ R v w1 := fnP_calls callable Tryz.func6 (revetmentlaw16_RowActs_eq n0 n1 n2 b3 p4 l4 c4 w R ▸ h)

/-- revetment/revetmentlaw16.shown -/
def revetmentlaw16_shown (w : World) (R : Value → World → Prop) : Prop :=
  Calls Tryz.prog 8 #[.int .u8 0, .int .u8 0, .int .u8 0] w fun e w1 => ∃ n6_0 : Int, ∃ n6_1 : Int, ∃ n6_2 : Int, e = .returned (.agg #[.int .i64 n6_0, .int .i64 n6_1, .int .i64 n6_2]) ∧
  Calls Tryz.prog 9 #[.agg #[.int .i64 n6_0, .int .i64 n6_1, .int .i64 n6_2], .bool false] w1 fun e_1 w2 => ∃ n7_0_0 : Int, ∃ n7_0_1 : Int, ∃ n7_0_2 : Int, ∃ (p7_0_3 : Option Addr) (l7_0_3 c7_0_3 : Nat), ∃ (p7_0_4 : Option Addr) (l7_0_4 c7_0_4 : Nat), ∃ n7_1_0 : Int, ∃ n7_1_1 : Int, ∃ n7_1_2 : Int, ∃ (p7_1_3 : Option Addr) (l7_1_3 c7_1_3 : Nat), ∃ (p7_1_4 : Option Addr) (l7_1_4 c7_1_4 : Nat), e_1 = .returned (.tuple #[.agg #[.int .i64 n7_0_0, .int .i64 n7_0_1, .int .i64 n7_0_2, .slice p7_0_3 l7_0_3 c7_0_3, .slice p7_0_4 l7_0_4 c7_0_4], .agg #[.int .i64 n7_1_0, .int .i64 n7_1_1, .int .i64 n7_1_2, .slice p7_1_3 l7_1_3 c7_1_3, .slice p7_1_4 l7_1_4 c7_1_4]]) ∧
  Alloc #[.int .i64 0, .int .i64 0, .int .i64 0, .slice none 0 0, .slice none 0 0] 30 w2 fun k1 w3 =>
  Alloc #[.int .i64 0, .int .i64 0, .int .i64 0, .slice none 0 0, .slice none 0 0] 33 w3 fun k2 w4 =>
  St ⟨k1, 0, none⟩ (.int .i64 n7_0_0) w4 fun w5 =>
  St ⟨k1, 1, none⟩ (.int .i64 n7_0_1) w5 fun w6 =>
  St ⟨k1, 2, none⟩ (.int .i64 n7_0_2) w6 fun w7 =>
  St ⟨k1, 3, none⟩ (.slice p7_0_3 l7_0_3 c7_0_3) w7 fun w8 =>
  St ⟨k1, 4, none⟩ (.slice p7_0_4 l7_0_4 c7_0_4) w8 fun w9 =>
  St ⟨k2, 0, none⟩ (.int .i64 n7_1_0) w9 fun w10 =>
  St ⟨k2, 1, none⟩ (.int .i64 n7_1_1) w10 fun w11 =>
  St ⟨k2, 2, none⟩ (.int .i64 n7_1_2) w11 fun w12 =>
  St ⟨k2, 3, none⟩ (.slice p7_1_3 l7_1_3 c7_1_3) w12 fun w13 =>
  St ⟨k2, 4, none⟩ (.slice p7_1_4 l7_1_4 c7_1_4) w13 fun w14 =>
  ∃ D : World → Prop, D w14.drew ∧
  ∃ (p11 : Option Addr) (l11 c11 : Nat), (∀ w, D w → w.cell? ⟨k1, 3, none⟩ = some (.slice p11 l11 c11)) ∧
  ∃ a12 : Addr, p11 = some a12 ∧ (0 : Int) ≤ 0 ∧ 0 < (l11 : Int) ∧
  ∃ p13 : Option Addr, (∀ w, D w → w.cell? a12 = some (.pointer p13)) ∧
  ((Option.isNone p13) = true →
  R (.bool false) w14.drew) ∧
  ((Option.isNone p13) = false →
  ∃ n16_0 : Int, ∃ n16_1 : Int, ∃ n16_2 : Int, ∃ (p16_3 : Option Addr) (l16_3 c16_3 : Nat), ∃ (p16_4 : Option Addr) (l16_4 c16_4 : Nat), (∀ w, D w → w.cell? ⟨k1, 0, none⟩ = some (.int .i64 n16_0) ∧ w.cell? ⟨k1, 1, none⟩ = some (.int .i64 n16_1) ∧ w.cell? ⟨k1, 2, none⟩ = some (.int .i64 n16_2) ∧ w.cell? ⟨k1, 3, none⟩ = some (.slice p16_3 l16_3 c16_3) ∧ w.cell? ⟨k1, 4, none⟩ = some (.slice p16_4 l16_4 c16_4)) ∧
  Calls Tryz.prog 10 #[.string (ByteArray.mk #[97])] w14.drew fun e_2 w15 => ∃ s17 : ByteArray, e_2 = .returned (.string s17) ∧
  D w15 ∧
  Calls Tryz.prog 13 #[.agg #[.int .i64 n16_0, .int .i64 n16_1, .int .i64 n16_2, .slice p16_3 l16_3 c16_3, .slice p16_4 l16_4 c16_4], .int .i64 0, .int .i64 0, .int .i64 1, .string s17] w15 fun e_3 w16 => ∃ n18 : Int, e_3 = .returned (.int .i64 n18) ∧
  D w16 ∧
  ((n18 != 0) = true →
  R (.bool false) w16) ∧
  ((n18 != 0) = false →
  ∃ n22_0 : Int, ∃ n22_1 : Int, ∃ n22_2 : Int, ∃ (p22_3 : Option Addr) (l22_3 c22_3 : Nat), ∃ (p22_4 : Option Addr) (l22_4 c22_4 : Nat), (w16.cell? ⟨k1, 0, none⟩ = some (.int .i64 n22_0) ∧ w16.cell? ⟨k1, 1, none⟩ = some (.int .i64 n22_1) ∧ w16.cell? ⟨k1, 2, none⟩ = some (.int .i64 n22_2) ∧ w16.cell? ⟨k1, 3, none⟩ = some (.slice p22_3 l22_3 c22_3) ∧ w16.cell? ⟨k1, 4, none⟩ = some (.slice p22_4 l22_4 c22_4)) ∧
  Calls Tryz.prog 16 #[.agg #[.int .i64 n22_0, .int .i64 n22_1, .int .i64 n22_2, .slice p22_3 l22_3 c22_3, .slice p22_4 l22_4 c22_4], .int .i64 0, .int .i64 0, .int .i64 1] w16 fun e_4 w17 => ∃ s23_0 : ByteArray, ∃ n23_1 : Int, e_4 = .returned (.tuple #[.string s23_0, .int .i64 n23_1]) ∧
  Calls Tryz.prog 10 #[.string (ByteArray.mk #[97])] w17 fun e_5 w18 => ∃ s27 : ByteArray, e_5 = .returned (.string s27) ∧
  ((s23_0.toList == s27.toList) = true →
  ((n23_1 == 0) = true →
  ∃ n34_0 : Int, ∃ n34_1 : Int, ∃ n34_2 : Int, ∃ (p34_3 : Option Addr) (l34_3 c34_3 : Nat), ∃ (p34_4 : Option Addr) (l34_4 c34_4 : Nat), (w18.cell? ⟨k1, 0, none⟩ = some (.int .i64 n34_0) ∧ w18.cell? ⟨k1, 1, none⟩ = some (.int .i64 n34_1) ∧ w18.cell? ⟨k1, 2, none⟩ = some (.int .i64 n34_2) ∧ w18.cell? ⟨k1, 3, none⟩ = some (.slice p34_3 l34_3 c34_3) ∧ w18.cell? ⟨k1, 4, none⟩ = some (.slice p34_4 l34_4 c34_4)) ∧
  Calls Tryz.prog 21 #[.agg #[.int .i64 n34_0, .int .i64 n34_1, .int .i64 n34_2, .slice p34_3 l34_3 c34_3, .slice p34_4 l34_4 c34_4]] w18 fun e_6 w19 => ∃ b35 : Bool, e_6 = .returned (.bool b35) ∧
  R (.bool b35) w19) ∧
  ((n23_1 == 0) = false →
  R (.bool false) w18)) ∧
  ((s23_0.toList == s27.toList) = false →
  R (.bool false) w18)))
theorem revetmentlaw16_shown_eq (w : World) (R : Value → World → Prop) : revetmentlaw16_shown w R = fnP Tryz.prog Tryz.f7 .o [] w R := by kernel_rfl
theorem revetmentlaw16_shown_calls {w : World} {R : Value → World → Prop} (h : revetmentlaw16_shown w R) : Calls Tryz.prog 7 #[] w fun e w1 => ∃ v, e = .returned v ∧ R v w1 := fnP_calls callable Tryz.func7 (revetmentlaw16_shown_eq w R ▸ h)

/-- revetment/revetmentlaw16.geometry -/
def revetmentlaw16_geometry (n0 : Int) (n1 : Int) (n2 : Int) (w : World) (R : Value → World → Prop) : Prop :=
  Alloc #[.int .i64 0, .int .i64 0, .int .i64 0] 25 w fun k6 w1 =>
  St ⟨k6, 0, none⟩ (.int .i64 (IntKind.i64.wrap (4 + (Int.tmod (IntKind.i64.wrap n0) 4)))) w1 fun w2 =>
  St ⟨k6, 1, none⟩ (.int .i64 (IntKind.i64.wrap (1 + (Int.tmod (IntKind.i64.wrap n1) 3)))) w2 fun w3 =>
  St ⟨k6, 2, none⟩ (.int .i64 (IntKind.i64.wrap (1 + (Int.tmod (IntKind.i64.wrap n2) 6)))) w3 fun w4 =>
  ∃ nr6_0 : Int, ∃ nr6_1 : Int, ∃ nr6_2 : Int, (w4.cell? ⟨k6, 0, none⟩ = some (.int .i64 nr6_0) ∧ w4.cell? ⟨k6, 1, none⟩ = some (.int .i64 nr6_1) ∧ w4.cell? ⟨k6, 2, none⟩ = some (.int .i64 nr6_2)) ∧
  R (.agg #[.int .i64 nr6_0, .int .i64 nr6_1, .int .i64 nr6_2]) w4
theorem revetmentlaw16_geometry_eq (n0 : Int) (n1 : Int) (n2 : Int) (w : World) (R : Value → World → Prop) : revetmentlaw16_geometry n0 n1 n2 w R = fnP Tryz.prog Tryz.f8 .o [.int .u8 n0, .int .u8 n1, .int .u8 n2] w R := by kernel_rfl
theorem revetmentlaw16_geometry_calls {n0 : Int} {n1 : Int} {n2 : Int} {w : World} {R : Value → World → Prop} (h : revetmentlaw16_geometry n0 n1 n2 w R) : Calls Tryz.prog 8 #[.int .u8 n0, .int .u8 n1, .int .u8 n2] w fun e w1 => ∃ v, e = .returned v ∧ R v w1 := fnP_calls callable Tryz.func8 (revetmentlaw16_geometry_eq n0 n1 n2 w R ▸ h)

/-- revetment/revetmentlaw16.pair -/
def revetmentlaw16_pair (n0_0 : Int) (n0_1 : Int) (n0_2 : Int) (b1 : Bool) (w : World) (R : Value → World → Prop) : Prop :=
  Alloc #[.int .i64 n0_0, .int .i64 n0_1, .int .i64 n0_2] 25 w fun k2 w1 =>
  Alloc #[.int .i64 0, .int .i64 0, .int .i64 0, .slice none 0 0, .slice none 0 0] 30 w1 fun k4 w2 =>
  Alloc #[.int .i64 0, .int .i64 0, .int .i64 0, .slice none 0 0, .slice none 0 0] 33 w2 fun k5 w3 =>
  ∃ n10_0 : Int, ∃ n10_1 : Int, ∃ n10_2 : Int, (w3.cell? ⟨k2, 0, none⟩ = some (.int .i64 n10_0) ∧ w3.cell? ⟨k2, 1, none⟩ = some (.int .i64 n10_1) ∧ w3.cell? ⟨k2, 2, none⟩ = some (.int .i64 n10_2)) ∧
  Alloc #[.int .i64 0, .int .i64 0, .int .i64 0, .slice none 0 0, .slice none 0 0] 30 w3 fun k6 w4 =>
  St ⟨k6, 0, none⟩ (.int .i64 n10_0) w4 fun w5 =>
  St ⟨k6, 1, none⟩ (.int .i64 n10_1) w5 fun w6 =>
  St ⟨k6, 2, none⟩ (.int .i64 n10_2) w6 fun w7 =>
  St ⟨k6, 3, none⟩ (.slice none 0 0) w7 fun w8 =>
  St ⟨k6, 4, none⟩ (.slice none 0 0) w8 fun w9 =>
  ∃ n12_0 : Int, ∃ n12_1 : Int, ∃ n12_2 : Int, (w9.cell? ⟨k2, 0, none⟩ = some (.int .i64 n12_0) ∧ w9.cell? ⟨k2, 1, none⟩ = some (.int .i64 n12_1) ∧ w9.cell? ⟨k2, 2, none⟩ = some (.int .i64 n12_2)) ∧
  Alloc #[.int .i64 0, .int .i64 0, .int .i64 0, .slice none 0 0, .slice none 0 0] 33 w9 fun k7 w10 =>
  St ⟨k7, 0, none⟩ (.int .i64 n12_0) w10 fun w11 =>
  St ⟨k7, 1, none⟩ (.int .i64 n12_1) w11 fun w12 =>
  St ⟨k7, 2, none⟩ (.int .i64 n12_2) w12 fun w13 =>
  St ⟨k7, 3, none⟩ (.slice none 0 0) w13 fun w14 =>
  St ⟨k7, 4, none⟩ (.slice none 0 0) w14 fun w15 =>
  ∃ n15 : Int, w15.cell? ⟨k2, 2, none⟩ = some (.int .i64 n15) ∧
  ∃ n17 : Int, w15.cell? ⟨k2, 1, none⟩ = some (.int .i64 n17) ∧
  Join (fun vs w16 => ∃ n8 : Int, vs = [.int .i64 n8] ∧
  LoopP (fun I => I [.int .i64 0] w16) fun K vs_1 w17 => ∃ n9 : Int, vs_1 = [.int .i64 n9] ∧
  ∃ n25 : Int, w17.cell? ⟨k2, 0, none⟩ = some (.int .i64 n25) ∧
  ((decide (n9 < n25)) = true →
  ∃ D : World → Prop, D w17.drew ∧
  ∃ (p30 : Option Addr) (l30 c30 : Nat), (∀ w, D w → w.cell? ⟨k6, 3, none⟩ = some (.slice p30 l30 c30)) ∧
  Calls Tryz.prog 32 #[.int .i64 n8] w17.drew fun e w18 => ∃ p32 : Option Addr, e = .returned (.pointer p32) ∧
  D w18 ∧
  Alloc #[.pointer p32] 40 w18 fun k33 w19 =>
  D w19 ∧
  ∃ (p34 : Option Addr) (l34 c34 : Nat), ∃ w20, (builtin .append #[27, 27] 27 #[false, false] #[.slice p30 l30 c30, .slice (some ⟨k33, 0, none⟩) 1 1]).run Tryz.prog w19 = .ok (.value (.slice p34 l34 c34)) w20 ∧
  D w20 ∧
  St ⟨k6, 3, none⟩ (.slice p34 l34 c34) w20 fun w21 =>
  ∃ D_1 : World → Prop, D_1 w21.drew ∧
  ∃ (p37 : Option Addr) (l37 c37 : Nat), (∀ w, D_1 w → w.cell? ⟨k7, 3, none⟩ = some (.slice p37 l37 c37)) ∧
  Calls Tryz.prog 33 #[.int .i64 n8] w21.drew fun e_1 w22 => ∃ p39 : Option Addr, e_1 = .returned (.pointer p39) ∧
  D_1 w22 ∧
  Alloc #[.pointer p39] 67 w22 fun k40 w23 =>
  D_1 w23 ∧
  ∃ (p41 : Option Addr) (l41 c41 : Nat), ∃ w24, (builtin .append #[31, 31] 31 #[false, false] #[.slice p37 l37 c37, .slice (some ⟨k40, 0, none⟩) 1 1]).run Tryz.prog w23 = .ok (.value (.slice p41 l41 c41)) w24 ∧
  D_1 w24 ∧
  St ⟨k7, 3, none⟩ (.slice p41 l41 c41) w24 fun w25 =>
  ∃ (p44 : Option Addr) (l44 c44 : Nat), w25.cell? ⟨k6, 4, none⟩ = some (.slice p44 l44 c44) ∧
  ∃ n46 : Int, w25.cell? ⟨k2, 2, none⟩ = some (.int .i64 n46) ∧
  Alloc #[.int .i64 n46] 3 w25 fun k47 w26 =>
  ∃ (p48 : Option Addr) (l48 c48 : Nat), ∃ w27, (builtin .append #[28, 28] 28 #[false, false] #[.slice p44 l44 c44, .slice (some ⟨k47, 0, none⟩) 1 1]).run Tryz.prog w26 = .ok (.value (.slice p48 l48 c48)) w27 ∧
  St ⟨k6, 4, none⟩ (.slice p48 l48 c48) w27 fun w28 =>
  ∃ (p51 : Option Addr) (l51 c51 : Nat), w28.cell? ⟨k7, 4, none⟩ = some (.slice p51 l51 c51) ∧
  ∃ n53 : Int, w28.cell? ⟨k2, 2, none⟩ = some (.int .i64 n53) ∧
  Alloc #[.int .i64 n53] 3 w28 fun k54 w29 =>
  ∃ (p55 : Option Addr) (l55 c55 : Nat), ∃ w30, (builtin .append #[28, 28] 28 #[false, false] #[.slice p51 l51 c51, .slice (some ⟨k54, 0, none⟩) 1 1]).run Tryz.prog w29 = .ok (.value (.slice p55 l55 c55)) w30 ∧
  St ⟨k7, 4, none⟩ (.slice p55 l55 c55) w30 fun w31 =>
  K [.int .i64 (IntKind.i64.wrap (n9 + 1))] w31) ∧
  ((decide (n9 < n25)) = false →
  ∃ D_2 : World → Prop, D_2 w17.drew ∧
  ∃ n57_0 : Int, ∃ n57_1 : Int, ∃ n57_2 : Int, ∃ (p57_3 : Option Addr) (l57_3 c57_3 : Nat), ∃ (p57_4 : Option Addr) (l57_4 c57_4 : Nat), (∀ w, D_2 w → w.cell? ⟨k6, 0, none⟩ = some (.int .i64 n57_0) ∧ w.cell? ⟨k6, 1, none⟩ = some (.int .i64 n57_1) ∧ w.cell? ⟨k6, 2, none⟩ = some (.int .i64 n57_2) ∧ w.cell? ⟨k6, 3, none⟩ = some (.slice p57_3 l57_3 c57_3) ∧ w.cell? ⟨k6, 4, none⟩ = some (.slice p57_4 l57_4 c57_4)) ∧
  ∃ n58_0 : Int, ∃ n58_1 : Int, ∃ n58_2 : Int, ∃ (p58_3 : Option Addr) (l58_3 c58_3 : Nat), ∃ (p58_4 : Option Addr) (l58_4 c58_4 : Nat), (∀ w, D_2 w → w.cell? ⟨k7, 0, none⟩ = some (.int .i64 n58_0) ∧ w.cell? ⟨k7, 1, none⟩ = some (.int .i64 n58_1) ∧ w.cell? ⟨k7, 2, none⟩ = some (.int .i64 n58_2) ∧ w.cell? ⟨k7, 3, none⟩ = some (.slice p58_3 l58_3 c58_3) ∧ w.cell? ⟨k7, 4, none⟩ = some (.slice p58_4 l58_4 c58_4)) ∧
  St ⟨k4, 0, none⟩ (.int .i64 n57_0) w17.drew fun w32 =>
  St ⟨k4, 1, none⟩ (.int .i64 n57_1) w32 fun w33 =>
  St ⟨k4, 2, none⟩ (.int .i64 n57_2) w33 fun w34 =>
  St ⟨k4, 3, none⟩ (.slice p57_3 l57_3 c57_3) w34 fun w35 =>
  St ⟨k4, 4, none⟩ (.slice p57_4 l57_4 c57_4) w35 fun w36 =>
  D_2 w36 ∧
  St ⟨k5, 0, none⟩ (.int .i64 n58_0) w36 fun w37 =>
  St ⟨k5, 1, none⟩ (.int .i64 n58_1) w37 fun w38 =>
  St ⟨k5, 2, none⟩ (.int .i64 n58_2) w38 fun w39 =>
  St ⟨k5, 3, none⟩ (.slice p58_3 l58_3 c58_3) w39 fun w40 =>
  St ⟨k5, 4, none⟩ (.slice p58_4 l58_4 c58_4) w40 fun w41 =>
  ∃ nr4_0 : Int, ∃ nr4_1 : Int, ∃ nr4_2 : Int, ∃ (pr4_3 : Option Addr) (lr4_3 cr4_3 : Nat), ∃ (pr4_4 : Option Addr) (lr4_4 cr4_4 : Nat), (w41.cell? ⟨k4, 0, none⟩ = some (.int .i64 nr4_0) ∧ w41.cell? ⟨k4, 1, none⟩ = some (.int .i64 nr4_1) ∧ w41.cell? ⟨k4, 2, none⟩ = some (.int .i64 nr4_2) ∧ w41.cell? ⟨k4, 3, none⟩ = some (.slice pr4_3 lr4_3 cr4_3) ∧ w41.cell? ⟨k4, 4, none⟩ = some (.slice pr4_4 lr4_4 cr4_4)) ∧
  ∃ nr5_0 : Int, ∃ nr5_1 : Int, ∃ nr5_2 : Int, ∃ (pr5_3 : Option Addr) (lr5_3 cr5_3 : Nat), ∃ (pr5_4 : Option Addr) (lr5_4 cr5_4 : Nat), (w41.cell? ⟨k5, 0, none⟩ = some (.int .i64 nr5_0) ∧ w41.cell? ⟨k5, 1, none⟩ = some (.int .i64 nr5_1) ∧ w41.cell? ⟨k5, 2, none⟩ = some (.int .i64 nr5_2) ∧ w41.cell? ⟨k5, 3, none⟩ = some (.slice pr5_3 lr5_3 cr5_3) ∧ w41.cell? ⟨k5, 4, none⟩ = some (.slice pr5_4 lr5_4 cr5_4)) ∧
  R (.tuple #[.agg #[.int .i64 nr4_0, .int .i64 nr4_1, .int .i64 nr4_2, .slice pr4_3 lr4_3 cr4_3, .slice pr4_4 lr4_4 cr4_4], .agg #[.int .i64 nr5_0, .int .i64 nr5_1, .int .i64 nr5_2, .slice pr5_3 lr5_3 cr5_3, .slice pr5_4 lr5_4 cr5_4]]) w41)) fun J =>
  (b1 = true →
  J [.int .i64 (IntKind.i64.wrap ((IntKind.i64.wrap (4 + (IntKind.i64.wrap (n15 * n17)))) - 1))] w15) ∧
  (b1 = false →
  J [.int .i64 (IntKind.i64.wrap (4 + (IntKind.i64.wrap (n15 * n17))))] w15)
theorem revetmentlaw16_pair_eq (n0_0 : Int) (n0_1 : Int) (n0_2 : Int) (b1 : Bool) (w : World) (R : Value → World → Prop) : revetmentlaw16_pair n0_0 n0_1 n0_2 b1 w R = fnP Tryz.prog Tryz.f9 (.s .o (.s .o (.s .o (.s .o (.j [(8, .one (.int .i64))] .o (.s (.s .o (.b (.l [(9, .one (.int .i64))] .o))) .o)))))) [.agg #[.int .i64 n0_0, .int .i64 n0_1, .int .i64 n0_2], .bool b1] w R := by kernel_rfl
theorem revetmentlaw16_pair_calls {n0_0 : Int} {n0_1 : Int} {n0_2 : Int} {b1 : Bool} {w : World} {R : Value → World → Prop} (h : revetmentlaw16_pair n0_0 n0_1 n0_2 b1 w R) : Calls Tryz.prog 9 #[.agg #[.int .i64 n0_0, .int .i64 n0_1, .int .i64 n0_2], .bool b1] w fun e w1 => ∃ v, e = .returned v ∧ R v w1 := fnP_calls callable Tryz.func9 (revetmentlaw16_pair_eq n0_0 n0_1 n0_2 b1 w R ▸ h)

/-- revetment/revetmentlaw16.full -/
def revetmentlaw16_full (s0 : ByteArray) (w : World) (R : Value → World → Prop) : Prop :=
  Calls Tryz.prog 34 #[] w fun e w1 => ∃ s4 : ByteArray, e = .returned (.string s4) ∧
  ((s0.size + s4.size : Nat) : Int) ≤ 9223372036854775807 ∧
  ∃ s6 : ByteArray, ∃ w2, (Instr.sliceAt 9 (.string (s0 ++ s4)) none (some (.int .i64 64)) none).run Tryz.prog w1 = .ok (.string s6) w2 ∧
  R (.string s6) w2
theorem revetmentlaw16_full_eq (s0 : ByteArray) (w : World) (R : Value → World → Prop) : revetmentlaw16_full s0 w R = fnP Tryz.prog Tryz.f10 .o [.string s0] w R := by kernel_rfl
theorem revetmentlaw16_full_calls {s0 : ByteArray} {w : World} {R : Value → World → Prop} (h : revetmentlaw16_full s0 w R) : Calls Tryz.prog 10 #[.string s0] w fun e w1 => ∃ v, e = .returned v ∧ R v w1 := fnP_calls callable Tryz.func10 (revetmentlaw16_full_eq s0 w R ▸ h)

/-- revetment/row.Write -/
def row_Write (n0_0 : Int) (n0_1 : Int) (n0_2 : Int) (p0_3 : Option Addr) (l0_3 c0_3 : Nat) (p0_4 : Option Addr) (l0_4 c0_4 : Nat) (n1 : Int) (n2 : Int) (n3 : Int) (s4 : ByteArray) (w : World) (R : Value → World → Prop) : Prop :=
  Alloc #[.int .i64 n0_0, .int .i64 n0_1, .int .i64 n0_2, .slice p0_3 l0_3 c0_3, .slice p0_4 l0_4 c0_4] 30 w fun k5 w1 =>
  ∃ n15_0 : Int, ∃ n15_1 : Int, ∃ n15_2 : Int, ∃ (p15_3 : Option Addr) (l15_3 c15_3 : Nat), ∃ (p15_4 : Option Addr) (l15_4 c15_4 : Nat), (w1.cell? ⟨k5, 0, none⟩ = some (.int .i64 n15_0) ∧ w1.cell? ⟨k5, 1, none⟩ = some (.int .i64 n15_1) ∧ w1.cell? ⟨k5, 2, none⟩ = some (.int .i64 n15_2) ∧ w1.cell? ⟨k5, 3, none⟩ = some (.slice p15_3 l15_3 c15_3) ∧ w1.cell? ⟨k5, 4, none⟩ = some (.slice p15_4 l15_4 c15_4)) ∧
  Calls Tryz.prog 38 #[.agg #[.int .i64 n15_0, .int .i64 n15_1, .int .i64 n15_2, .slice p15_3 l15_3 c15_3, .slice p15_4 l15_4 c15_4], .int .i64 n1, .int .i64 n2] w1 fun e w2 => ∃ n18_0_0 : Int, ∃ n18_0_1 : Int, ∃ n18_0_2 : Int, ∃ (p18_0_3 : Option Addr) (l18_0_3 c18_0_3 : Nat), ∃ (p18_0_4 : Option Addr) (l18_0_4 c18_0_4 : Nat), ∃ n18_0_5 : Int, ∃ n18_0_6 : Int, ∃ n18_1 : Int, e = .returned (.tuple #[.agg #[.int .i64 n18_0_0, .int .i64 n18_0_1, .int .i64 n18_0_2, .slice p18_0_3 l18_0_3 c18_0_3, .slice p18_0_4 l18_0_4 c18_0_4, .int .i64 n18_0_5, .int .i64 n18_0_6], .int .i64 n18_1]) ∧
  Alloc #[.int .i64 0, .int .i64 0, .int .i64 0, .slice none 0 0, .slice none 0 0, .int .i64 0, .int .i64 0] 74 w2 fun k11 w3 =>
  St ⟨k11, 0, none⟩ (.int .i64 n18_0_0) w3 fun w4 =>
  St ⟨k11, 1, none⟩ (.int .i64 n18_0_1) w4 fun w5 =>
  St ⟨k11, 2, none⟩ (.int .i64 n18_0_2) w5 fun w6 =>
  St ⟨k11, 3, none⟩ (.slice p18_0_3 l18_0_3 c18_0_3) w6 fun w7 =>
  St ⟨k11, 4, none⟩ (.slice p18_0_4 l18_0_4 c18_0_4) w7 fun w8 =>
  St ⟨k11, 5, none⟩ (.int .i64 n18_0_5) w8 fun w9 =>
  St ⟨k11, 6, none⟩ (.int .i64 n18_0_6) w9 fun w10 =>
  ((n18_1 != 0) = true →
  R (.int .i64 n18_1) w10) ∧
  ((n18_1 != 0) = false →
  ((decide (n3 < 0)) = true →
  R (.int .i64 70) w10) ∧
  ((decide (n3 < 0)) = false →
  ∃ n32 : Int, w10.cell? ⟨k5, 0, none⟩ = some (.int .i64 n32) ∧
  ((decide (n3 ≥ n32)) = true →
  R (.int .i64 70) w10) ∧
  ((decide (n3 ≥ n32)) = false →
  ∃ D : World → Prop, D w10.drew ∧
  ∃ n36_0 : Int, ∃ n36_1 : Int, ∃ n36_2 : Int, ∃ (p36_3 : Option Addr) (l36_3 c36_3 : Nat), ∃ (p36_4 : Option Addr) (l36_4 c36_4 : Nat), (∀ w, D w → w.cell? ⟨k11, 0, none⟩ = some (.int .i64 n36_0) ∧ w.cell? ⟨k11, 1, none⟩ = some (.int .i64 n36_1) ∧ w.cell? ⟨k11, 2, none⟩ = some (.int .i64 n36_2) ∧ w.cell? ⟨k11, 3, none⟩ = some (.slice p36_3 l36_3 c36_3) ∧ w.cell? ⟨k11, 4, none⟩ = some (.slice p36_4 l36_4 c36_4)) ∧
  ∃ n37_0 : Int, ∃ n37_1 : Int, ∃ n37_2 : Int, ∃ (p37_3 : Option Addr) (l37_3 c37_3 : Nat), ∃ (p37_4 : Option Addr) (l37_4 c37_4 : Nat), ∃ n37_5 : Int, ∃ n37_6 : Int, (∀ w, D w → w.cell? ⟨k11, 0, none⟩ = some (.int .i64 n37_0) ∧ w.cell? ⟨k11, 1, none⟩ = some (.int .i64 n37_1) ∧ w.cell? ⟨k11, 2, none⟩ = some (.int .i64 n37_2) ∧ w.cell? ⟨k11, 3, none⟩ = some (.slice p37_3 l37_3 c37_3) ∧ w.cell? ⟨k11, 4, none⟩ = some (.slice p37_4 l37_4 c37_4) ∧ w.cell? ⟨k11, 5, none⟩ = some (.int .i64 n37_5) ∧ w.cell? ⟨k11, 6, none⟩ = some (.int .i64 n37_6)) ∧
  Calls Tryz.prog 40 #[.agg #[.int .i64 n37_0, .int .i64 n37_1, .int .i64 n37_2, .slice p37_3 l37_3 c37_3, .slice p37_4 l37_4 c37_4, .int .i64 n37_5, .int .i64 n37_6], .int .i64 n3] w10.drew fun e_1 w11 => ∃ n39 : Int, e_1 = .returned (.int .i64 n39) ∧
  D w11 ∧
  Calls Tryz.prog 39 #[.agg #[.int .i64 n36_0, .int .i64 n36_1, .int .i64 n36_2, .slice p36_3 l36_3 c36_3, .slice p36_4 l36_4 c36_4], .int .i64 n39] w11 fun e_2 w12 => ∃ p40 : Option Addr, e_2 = .returned (.pointer p40) ∧
  D w12 ∧
  ((Option.isNone p40) = true →
  R (.int .i64 40) w12) ∧
  ((Option.isNone p40) = false →
  ∃ n45_0 : Int, ∃ n45_1 : Int, ∃ n45_2 : Int, (w12.cell? ⟨k5, 0, none⟩ = some (.int .i64 n45_0) ∧ w12.cell? ⟨k5, 1, none⟩ = some (.int .i64 n45_1) ∧ w12.cell? ⟨k5, 2, none⟩ = some (.int .i64 n45_2)) ∧
  Calls Tryz.prog 42 #[.agg #[.int .i64 n45_0, .int .i64 n45_1, .int .i64 n45_2], .int .i64 n1, .int .i64 n2] w12 fun e_3 w13 => ∃ n48 : Int, e_3 = .returned (.int .i64 n48) ∧
  Calls Tryz.prog 41 #[.pointer p40, .int .i64 n48, .string s4] w13 fun e_4 w14 => ∃ n50 : Int, e_4 = .returned (.int .i64 n50) ∧
  R (.int .i64 n50) w14))))
theorem row_Write_eq (n0_0 : Int) (n0_1 : Int) (n0_2 : Int) (p0_3 : Option Addr) (l0_3 c0_3 : Nat) (p0_4 : Option Addr) (l0_4 c0_4 : Nat) (n1 : Int) (n2 : Int) (n3 : Int) (s4 : ByteArray) (w : World) (R : Value → World → Prop) : row_Write n0_0 n0_1 n0_2 p0_3 l0_3 c0_3 p0_4 l0_4 c0_4 n1 n2 n3 s4 w R = fnP Tryz.prog Tryz.f13 .o [.agg #[.int .i64 n0_0, .int .i64 n0_1, .int .i64 n0_2, .slice p0_3 l0_3 c0_3, .slice p0_4 l0_4 c0_4], .int .i64 n1, .int .i64 n2, .int .i64 n3, .string s4] w R := by kernel_rfl
theorem row_Write_calls {n0_0 : Int} {n0_1 : Int} {n0_2 : Int} {p0_3 : Option Addr} {l0_3 c0_3 : Nat} {p0_4 : Option Addr} {l0_4 c0_4 : Nat} {n1 : Int} {n2 : Int} {n3 : Int} {s4 : ByteArray} {w : World} {R : Value → World → Prop} (h : row_Write n0_0 n0_1 n0_2 p0_3 l0_3 c0_3 p0_4 l0_4 c0_4 n1 n2 n3 s4 w R) : Calls Tryz.prog 13 #[.agg #[.int .i64 n0_0, .int .i64 n0_1, .int .i64 n0_2, .slice p0_3 l0_3 c0_3, .slice p0_4 l0_4 c0_4], .int .i64 n1, .int .i64 n2, .int .i64 n3, .string s4] w fun e w1 => ∃ v, e = .returned v ∧ R v w1 := fnP_calls callable Tryz.func13 (row_Write_eq n0_0 n0_1 n0_2 p0_3 l0_3 c0_3 p0_4 l0_4 c0_4 n1 n2 n3 s4 w R ▸ h)

/-- revetment/row.Sector -/
def row_Sector (n0_0 : Int) (n0_1 : Int) (n0_2 : Int) (p0_3 : Option Addr) (l0_3 c0_3 : Nat) (p0_4 : Option Addr) (l0_4 c0_4 : Nat) (n1 : Int) (n2 : Int) (n3 : Int) (w : World) (R : Value → World → Prop) : Prop :=
  Alloc #[.int .i64 n0_0, .int .i64 n0_1, .int .i64 n0_2, .slice p0_3 l0_3 c0_3, .slice p0_4 l0_4 c0_4] 30 w fun k4 w1 =>
  ∃ n17_0 : Int, ∃ n17_1 : Int, ∃ n17_2 : Int, ∃ (p17_3 : Option Addr) (l17_3 c17_3 : Nat), ∃ (p17_4 : Option Addr) (l17_4 c17_4 : Nat), (w1.cell? ⟨k4, 0, none⟩ = some (.int .i64 n17_0) ∧ w1.cell? ⟨k4, 1, none⟩ = some (.int .i64 n17_1) ∧ w1.cell? ⟨k4, 2, none⟩ = some (.int .i64 n17_2) ∧ w1.cell? ⟨k4, 3, none⟩ = some (.slice p17_3 l17_3 c17_3) ∧ w1.cell? ⟨k4, 4, none⟩ = some (.slice p17_4 l17_4 c17_4)) ∧
  Calls Tryz.prog 38 #[.agg #[.int .i64 n17_0, .int .i64 n17_1, .int .i64 n17_2, .slice p17_3 l17_3 c17_3, .slice p17_4 l17_4 c17_4], .int .i64 n1, .int .i64 n2] w1 fun e w2 => ∃ n20_0_0 : Int, ∃ n20_0_1 : Int, ∃ n20_0_2 : Int, ∃ (p20_0_3 : Option Addr) (l20_0_3 c20_0_3 : Nat), ∃ (p20_0_4 : Option Addr) (l20_0_4 c20_0_4 : Nat), ∃ n20_0_5 : Int, ∃ n20_0_6 : Int, ∃ n20_1 : Int, e = .returned (.tuple #[.agg #[.int .i64 n20_0_0, .int .i64 n20_0_1, .int .i64 n20_0_2, .slice p20_0_3 l20_0_3 c20_0_3, .slice p20_0_4 l20_0_4 c20_0_4, .int .i64 n20_0_5, .int .i64 n20_0_6], .int .i64 n20_1]) ∧
  Alloc #[.int .i64 0, .int .i64 0, .int .i64 0, .slice none 0 0, .slice none 0 0, .int .i64 0, .int .i64 0] 74 w2 fun k10 w3 =>
  St ⟨k10, 0, none⟩ (.int .i64 n20_0_0) w3 fun w4 =>
  St ⟨k10, 1, none⟩ (.int .i64 n20_0_1) w4 fun w5 =>
  St ⟨k10, 2, none⟩ (.int .i64 n20_0_2) w5 fun w6 =>
  St ⟨k10, 3, none⟩ (.slice p20_0_3 l20_0_3 c20_0_3) w6 fun w7 =>
  St ⟨k10, 4, none⟩ (.slice p20_0_4 l20_0_4 c20_0_4) w7 fun w8 =>
  St ⟨k10, 5, none⟩ (.int .i64 n20_0_5) w8 fun w9 =>
  St ⟨k10, 6, none⟩ (.int .i64 n20_0_6) w9 fun w10 =>
  ((n20_1 != 0) = true →
  R (.tuple #[.string (ByteArray.mk #[]), .int .i64 n20_1]) w10) ∧
  ((n20_1 != 0) = false →
  ((decide (n3 < 0)) = true →
  R (.tuple #[.string (ByteArray.mk #[]), .int .i64 70]) w10) ∧
  ((decide (n3 < 0)) = false →
  ∃ n34 : Int, w10.cell? ⟨k4, 0, none⟩ = some (.int .i64 n34) ∧
  ((decide (n3 ≥ (IntKind.i64.wrap (n34 - 2)))) = true →
  R (.tuple #[.string (ByteArray.mk #[]), .int .i64 70]) w10) ∧
  ((decide (n3 ≥ (IntKind.i64.wrap (n34 - 2)))) = false →
  ∃ n39_0 : Int, ∃ n39_1 : Int, ∃ n39_2 : Int, ∃ (p39_3 : Option Addr) (l39_3 c39_3 : Nat), ∃ (p39_4 : Option Addr) (l39_4 c39_4 : Nat), ∃ n39_5 : Int, ∃ n39_6 : Int, (w10.cell? ⟨k10, 0, none⟩ = some (.int .i64 n39_0) ∧ w10.cell? ⟨k10, 1, none⟩ = some (.int .i64 n39_1) ∧ w10.cell? ⟨k10, 2, none⟩ = some (.int .i64 n39_2) ∧ w10.cell? ⟨k10, 3, none⟩ = some (.slice p39_3 l39_3 c39_3) ∧ w10.cell? ⟨k10, 4, none⟩ = some (.slice p39_4 l39_4 c39_4) ∧ w10.cell? ⟨k10, 5, none⟩ = some (.int .i64 n39_5) ∧ w10.cell? ⟨k10, 6, none⟩ = some (.int .i64 n39_6)) ∧
  Calls Tryz.prog 44 #[.agg #[.int .i64 n39_0, .int .i64 n39_1, .int .i64 n39_2, .slice p39_3 l39_3 c39_3, .slice p39_4 l39_4 c39_4, .int .i64 n39_5, .int .i64 n39_6], .int .i64 n3] w10 fun e_1 w11 => ∃ s41_0 : ByteArray, ∃ n41_1 : Int, e_1 = .returned (.tuple #[.string s41_0, .int .i64 n41_1]) ∧
  ((n41_1 != 41) = true →
  R (.tuple #[.string s41_0, .int .i64 n41_1]) w11) ∧
  ((n41_1 != 41) = false →
  ∃ n49_0 : Int, ∃ n49_1 : Int, ∃ n49_2 : Int, ∃ (p49_3 : Option Addr) (l49_3 c49_3 : Nat), ∃ (p49_4 : Option Addr) (l49_4 c49_4 : Nat), (w11.cell? ⟨k4, 0, none⟩ = some (.int .i64 n49_0) ∧ w11.cell? ⟨k4, 1, none⟩ = some (.int .i64 n49_1) ∧ w11.cell? ⟨k4, 2, none⟩ = some (.int .i64 n49_2) ∧ w11.cell? ⟨k4, 3, none⟩ = some (.slice p49_3 l49_3 c49_3) ∧ w11.cell? ⟨k4, 4, none⟩ = some (.slice p49_4 l49_4 c49_4)) ∧
  Calls Tryz.prog 18 #[.agg #[.int .i64 n49_0, .int .i64 n49_1, .int .i64 n49_2, .slice p49_3 l49_3 c49_3, .slice p49_4 l49_4 c49_4], .int .i64 n1, .int .i64 n2] w11 fun e_2 w12 => ∃ (p52_0 : Option Addr) (l52_0 c52_0 : Nat), ∃ (p52_1 : Option Addr) (l52_1 c52_1 : Nat), ∃ n52_2 : Int, e_2 = .returned (.tuple #[.slice p52_0 l52_0 c52_0, .slice p52_1 l52_1 c52_1, .int .i64 n52_2]) ∧
  ((n52_2 != 0) = true →
  R (.tuple #[.string (ByteArray.mk #[]), .int .i64 n52_2]) w12) ∧
  ((n52_2 != 0) = false →
  ∃ a61 : Addr, p52_0 = some a61 ∧ (0 : Int) ≤ n3 ∧ n3 < (l52_0 : Int) ∧
  ∃ s62 : ByteArray, w12.cell? (Addr.add a61 (n3.toNat * 1)) = some (.string s62) ∧
  R (.tuple #[.string s62, .int .i64 0]) w12)))))
theorem row_Sector_eq (n0_0 : Int) (n0_1 : Int) (n0_2 : Int) (p0_3 : Option Addr) (l0_3 c0_3 : Nat) (p0_4 : Option Addr) (l0_4 c0_4 : Nat) (n1 : Int) (n2 : Int) (n3 : Int) (w : World) (R : Value → World → Prop) : row_Sector n0_0 n0_1 n0_2 p0_3 l0_3 c0_3 p0_4 l0_4 c0_4 n1 n2 n3 w R = fnP Tryz.prog Tryz.f16 .o [.agg #[.int .i64 n0_0, .int .i64 n0_1, .int .i64 n0_2, .slice p0_3 l0_3 c0_3, .slice p0_4 l0_4 c0_4], .int .i64 n1, .int .i64 n2, .int .i64 n3] w R := by kernel_rfl
theorem row_Sector_calls {n0_0 : Int} {n0_1 : Int} {n0_2 : Int} {p0_3 : Option Addr} {l0_3 c0_3 : Nat} {p0_4 : Option Addr} {l0_4 c0_4 : Nat} {n1 : Int} {n2 : Int} {n3 : Int} {w : World} {R : Value → World → Prop} (h : row_Sector n0_0 n0_1 n0_2 p0_3 l0_3 c0_3 p0_4 l0_4 c0_4 n1 n2 n3 w R) : Calls Tryz.prog 16 #[.agg #[.int .i64 n0_0, .int .i64 n0_1, .int .i64 n0_2, .slice p0_3 l0_3 c0_3, .slice p0_4 l0_4 c0_4], .int .i64 n1, .int .i64 n2, .int .i64 n3] w fun e w1 => ∃ v, e = .returned v ∧ R v w1 := fnP_calls callable Tryz.func16 (row_Sector_eq n0_0 n0_1 n0_2 p0_3 l0_3 c0_3 p0_4 l0_4 c0_4 n1 n2 n3 w R ▸ h)

/-- revetment/row.Read -/
def row_Read (n0_0 : Int) (n0_1 : Int) (n0_2 : Int) (p0_3 : Option Addr) (l0_3 c0_3 : Nat) (p0_4 : Option Addr) (l0_4 c0_4 : Nat) (n1 : Int) (n2 : Int) (w : World) (R : Value → World → Prop) : Prop :=
  Alloc #[.int .i64 n0_0, .int .i64 n0_1, .int .i64 n0_2, .slice p0_3 l0_3 c0_3, .slice p0_4 l0_4 c0_4] 30 w fun k3 w1 =>
  Alloc #[.slice none 0 0] 22 w1 fun k6 w2 =>
  Alloc #[.slice none 0 0] 28 w2 fun k7 w3 =>
  Alloc #[.int .i64 0] 38 w3 fun k8 w4 =>
  ∃ n16_0 : Int, ∃ n16_1 : Int, ∃ n16_2 : Int, ∃ (p16_3 : Option Addr) (l16_3 c16_3 : Nat), ∃ (p16_4 : Option Addr) (l16_4 c16_4 : Nat), (w4.cell? ⟨k3, 0, none⟩ = some (.int .i64 n16_0) ∧ w4.cell? ⟨k3, 1, none⟩ = some (.int .i64 n16_1) ∧ w4.cell? ⟨k3, 2, none⟩ = some (.int .i64 n16_2) ∧ w4.cell? ⟨k3, 3, none⟩ = some (.slice p16_3 l16_3 c16_3) ∧ w4.cell? ⟨k3, 4, none⟩ = some (.slice p16_4 l16_4 c16_4)) ∧
  Calls Tryz.prog 38 #[.agg #[.int .i64 n16_0, .int .i64 n16_1, .int .i64 n16_2, .slice p16_3 l16_3 c16_3, .slice p16_4 l16_4 c16_4], .int .i64 n1, .int .i64 n2] w4 fun e w5 => ∃ n19_0_0 : Int, ∃ n19_0_1 : Int, ∃ n19_0_2 : Int, ∃ (p19_0_3 : Option Addr) (l19_0_3 c19_0_3 : Nat), ∃ (p19_0_4 : Option Addr) (l19_0_4 c19_0_4 : Nat), ∃ n19_0_5 : Int, ∃ n19_0_6 : Int, ∃ n19_1 : Int, e = .returned (.tuple #[.agg #[.int .i64 n19_0_0, .int .i64 n19_0_1, .int .i64 n19_0_2, .slice p19_0_3 l19_0_3 c19_0_3, .slice p19_0_4 l19_0_4 c19_0_4, .int .i64 n19_0_5, .int .i64 n19_0_6], .int .i64 n19_1]) ∧
  Alloc #[.int .i64 0, .int .i64 0, .int .i64 0, .slice none 0 0, .slice none 0 0, .int .i64 0, .int .i64 0] 74 w5 fun k9 w6 =>
  St ⟨k9, 0, none⟩ (.int .i64 n19_0_0) w6 fun w7 =>
  St ⟨k9, 1, none⟩ (.int .i64 n19_0_1) w7 fun w8 =>
  St ⟨k9, 2, none⟩ (.int .i64 n19_0_2) w8 fun w9 =>
  St ⟨k9, 3, none⟩ (.slice p19_0_3 l19_0_3 c19_0_3) w9 fun w10 =>
  St ⟨k9, 4, none⟩ (.slice p19_0_4 l19_0_4 c19_0_4) w10 fun w11 =>
  St ⟨k9, 5, none⟩ (.int .i64 n19_0_5) w11 fun w12 =>
  St ⟨k9, 6, none⟩ (.int .i64 n19_0_6) w12 fun w13 =>
  ((n19_1 != 0) = true →
  St ⟨k6, 0, none⟩ (.slice none 0 0) w13 fun w14 =>
  St ⟨k7, 0, none⟩ (.slice none 0 0) w14 fun w15 =>
  St ⟨k8, 0, none⟩ (.int .i64 n19_1) w15 fun w16 =>
  ∃ (pr6 : Option Addr) (lr6 cr6 : Nat), w16.cell? ⟨k6, 0, none⟩ = some (.slice pr6 lr6 cr6) ∧
  ∃ (pr7 : Option Addr) (lr7 cr7 : Nat), w16.cell? ⟨k7, 0, none⟩ = some (.slice pr7 lr7 cr7) ∧
  ∃ nr8 : Int, w16.cell? ⟨k8, 0, none⟩ = some (.int .i64 nr8) ∧
  R (.tuple #[.slice pr6 lr6 cr6, .slice pr7 lr7 cr7, .int .i64 nr8]) w16) ∧
  ((n19_1 != 0) = false →
  Alloc #[.slice none 0 0] 22 w13 fun k11 w17 =>
  Alloc #[.slice none 0 0] 28 w17 fun k12 w18 =>
  ∃ n25_0 : Int, ∃ n25_1 : Int, ∃ n25_2 : Int, ∃ (p25_3 : Option Addr) (l25_3 c25_3 : Nat), ∃ (p25_4 : Option Addr) (l25_4 c25_4 : Nat), ∃ n25_5 : Int, ∃ n25_6 : Int, (w18.cell? ⟨k9, 0, none⟩ = some (.int .i64 n25_0) ∧ w18.cell? ⟨k9, 1, none⟩ = some (.int .i64 n25_1) ∧ w18.cell? ⟨k9, 2, none⟩ = some (.int .i64 n25_2) ∧ w18.cell? ⟨k9, 3, none⟩ = some (.slice p25_3 l25_3 c25_3) ∧ w18.cell? ⟨k9, 4, none⟩ = some (.slice p25_4 l25_4 c25_4) ∧ w18.cell? ⟨k9, 5, none⟩ = some (.int .i64 n25_5) ∧ w18.cell? ⟨k9, 6, none⟩ = some (.int .i64 n25_6)) ∧
  Calls Tryz.prog 45 #[.agg #[.int .i64 n25_0, .int .i64 n25_1, .int .i64 n25_2, .slice p25_3 l25_3 c25_3, .slice p25_4 l25_4 c25_4, .int .i64 n25_5, .int .i64 n25_6]] w18 fun e_1 w19 => ∃ v26 : Value, e_1 = .returned v26 ∧
  RangeP Tryz.prog v26 (fun ob l args W Φ => ∃ s27 : ByteArray, ∃ n28 : Int, args = [.string s27, .int .i64 n28] ∧
  RoundP ob l Φ (fun K X R w20 =>
  Join (fun vs w21 => vs = [] ∧
  ∃ (p40 : Option Addr) (l40 c40 : Nat), w21.cell? ⟨k11, 0, none⟩ = some (.slice p40 l40 c40) ∧
  Alloc #[.string s27] 9 w21 fun k42 w22 =>
  ∃ (p43 : Option Addr) (l43 c43 : Nat), ∃ w23, (builtin .append #[22, 22] 22 #[false, false] #[.slice p40 l40 c40, .slice (some ⟨k42, 0, none⟩) 1 1]).run Tryz.prog w22 = .ok (.value (.slice p43 l43 c43)) w23 ∧
  St ⟨k11, 0, none⟩ (.slice p43 l43 c43) w23 fun w24 =>
  K w24) fun J =>
  ((n28 == 42) = true →
  St ⟨k6, 0, none⟩ (.slice none 0 0) w20 fun w25 =>
  St ⟨k7, 0, none⟩ (.slice none 0 0) w25 fun w26 =>
  St ⟨k8, 0, none⟩ (.int .i64 n28) w26 fun w27 =>
  R w27) ∧
  ((n28 == 42) = false →
  ((n28 == 0) = true →
  J [] w20) ∧
  ((n28 == 0) = false →
  ∃ (p30 : Option Addr) (l30 c30 : Nat), w20.cell? ⟨k12, 0, none⟩ = some (.slice p30 l30 c30) ∧
  ∃ (p31 : Option Addr) (l31 c31 : Nat), w20.cell? ⟨k11, 0, none⟩ = some (.slice p31 l31 c31) ∧
  Alloc #[.int .i64 (l31 : Int)] 3 w20 fun k33 w28 =>
  ∃ (p34 : Option Addr) (l34 c34 : Nat), ∃ w29, (builtin .append #[28, 28] 28 #[false, false] #[.slice p30 l30 c30, .slice (some ⟨k33, 0, none⟩) 1 1]).run Tryz.prog w28 = .ok (.value (.slice p34 l34 c34)) w29 ∧
  St ⟨k12, 0, none⟩ (.slice p34 l34 c34) w29 fun w30 =>
  J [] w30))) W) []
  (fun d w31 =>
  ∃ D : World → Prop, D w31.drew ∧
  ∃ (p44 : Option Addr) (l44 c44 : Nat), (∀ w, D w → w.cell? ⟨k11, 0, none⟩ = some (.slice p44 l44 c44)) ∧
  ∃ (p45 : Option Addr) (l45 c45 : Nat), (∀ w, D w → w.cell? ⟨k12, 0, none⟩ = some (.slice p45 l45 c45)) ∧
  St ⟨k6, 0, none⟩ (.slice p44 l44 c44) w31.drew fun w32 =>
  D w32 ∧
  St ⟨k7, 0, none⟩ (.slice p45 l45 c45) w32 fun w33 =>
  D w33 ∧
  St ⟨k8, 0, none⟩ (.int .i64 0) w33 fun w34 =>
  w34.heap[d]? = some (.deferred (some [])) ∧
  ∃ (pr6_1 : Option Addr) (lr6_1 cr6_1 : Nat), (w34.putObj d (.deferred none)).cell? ⟨k6, 0, none⟩ = some (.slice pr6_1 lr6_1 cr6_1) ∧
  ∃ (pr7_1 : Option Addr) (lr7_1 cr7_1 : Nat), (w34.putObj d (.deferred none)).cell? ⟨k7, 0, none⟩ = some (.slice pr7_1 lr7_1 cr7_1) ∧
  ∃ nr8_1 : Int, (w34.putObj d (.deferred none)).cell? ⟨k8, 0, none⟩ = some (.int .i64 nr8_1) ∧
  R (.tuple #[.slice pr6_1 lr6_1 cr6_1, .slice pr7_1 lr7_1 cr7_1, .int .i64 nr8_1]) (w34.putObj d (.deferred none)))
  (fun d_1 w35 =>
  w35.heap[d_1]? = some (.deferred (some [])) ∧
  ∃ (pr6_2 : Option Addr) (lr6_2 cr6_2 : Nat), (w35.putObj d_1 (.deferred none)).cell? ⟨k6, 0, none⟩ = some (.slice pr6_2 lr6_2 cr6_2) ∧
  ∃ (pr7_2 : Option Addr) (lr7_2 cr7_2 : Nat), (w35.putObj d_1 (.deferred none)).cell? ⟨k7, 0, none⟩ = some (.slice pr7_2 lr7_2 cr7_2) ∧
  ∃ nr8_2 : Int, (w35.putObj d_1 (.deferred none)).cell? ⟨k8, 0, none⟩ = some (.int .i64 nr8_2) ∧
  R (.tuple #[.slice pr6_2 lr6_2 cr6_2, .slice pr7_2 lr7_2 cr7_2, .int .i64 nr8_2]) (w35.putObj d_1 (.deferred none))) w19)
theorem row_Read_eq (n0_0 : Int) (n0_1 : Int) (n0_2 : Int) (p0_3 : Option Addr) (l0_3 c0_3 : Nat) (p0_4 : Option Addr) (l0_4 c0_4 : Nat) (n1 : Int) (n2 : Int) (w : World) (R : Value → World → Prop) : row_Read n0_0 n0_1 n0_2 p0_3 l0_3 c0_3 p0_4 l0_4 c0_4 n1 n2 w R = fnP Tryz.prog Tryz.f17 (.s .o (.s .o (.s .o (.s .o (.s .o (.s (.s .o (.b (.rf [(27, .one .str), (28, .one (.int .i64))] (.b (.j [] .o .o))))) .o)))))) [.agg #[.int .i64 n0_0, .int .i64 n0_1, .int .i64 n0_2, .slice p0_3 l0_3 c0_3, .slice p0_4 l0_4 c0_4], .int .i64 n1, .int .i64 n2] w R := by kernel_rfl
theorem row_Read_calls {n0_0 : Int} {n0_1 : Int} {n0_2 : Int} {p0_3 : Option Addr} {l0_3 c0_3 : Nat} {p0_4 : Option Addr} {l0_4 c0_4 : Nat} {n1 : Int} {n2 : Int} {w : World} {R : Value → World → Prop} (h : row_Read n0_0 n0_1 n0_2 p0_3 l0_3 c0_3 p0_4 l0_4 c0_4 n1 n2 w R) : Calls Tryz.prog 17 #[.agg #[.int .i64 n0_0, .int .i64 n0_1, .int .i64 n0_2, .slice p0_3 l0_3 c0_3, .slice p0_4 l0_4 c0_4], .int .i64 n1, .int .i64 n2] w fun e w1 => ∃ v, e = .returned v ∧ R v w1 := fnP_calls callable Tryz.func17 (row_Read_eq n0_0 n0_1 n0_2 p0_3 l0_3 c0_3 p0_4 l0_4 c0_4 n1 n2 w R ▸ h)

/-- revetment/row.Filled -/
def row_Filled (n0_0 : Int) (n0_1 : Int) (n0_2 : Int) (p0_3 : Option Addr) (l0_3 c0_3 : Nat) (p0_4 : Option Addr) (l0_4 c0_4 : Nat) (n1 : Int) (n2 : Int) (w : World) (R : Value → World → Prop) : Prop :=
  Alloc #[.int .i64 n0_0, .int .i64 n0_1, .int .i64 n0_2, .slice p0_3 l0_3 c0_3, .slice p0_4 l0_4 c0_4] 30 w fun k3 w1 =>
  ∃ n13_0 : Int, ∃ n13_1 : Int, ∃ n13_2 : Int, ∃ (p13_3 : Option Addr) (l13_3 c13_3 : Nat), ∃ (p13_4 : Option Addr) (l13_4 c13_4 : Nat), (w1.cell? ⟨k3, 0, none⟩ = some (.int .i64 n13_0) ∧ w1.cell? ⟨k3, 1, none⟩ = some (.int .i64 n13_1) ∧ w1.cell? ⟨k3, 2, none⟩ = some (.int .i64 n13_2) ∧ w1.cell? ⟨k3, 3, none⟩ = some (.slice p13_3 l13_3 c13_3) ∧ w1.cell? ⟨k3, 4, none⟩ = some (.slice p13_4 l13_4 c13_4)) ∧
  Calls Tryz.prog 17 #[.agg #[.int .i64 n13_0, .int .i64 n13_1, .int .i64 n13_2, .slice p13_3 l13_3 c13_3, .slice p13_4 l13_4 c13_4], .int .i64 n1, .int .i64 n2] w1 fun e w2 => ∃ (p16_0 : Option Addr) (l16_0 c16_0 : Nat), ∃ (p16_1 : Option Addr) (l16_1 c16_1 : Nat), ∃ n16_2 : Int, e = .returned (.tuple #[.slice p16_0 l16_0 c16_0, .slice p16_1 l16_1 c16_1, .int .i64 n16_2]) ∧
  ((n16_2 != 0) = true →
  R (.tuple #[.slice none 0 0, .slice none 0 0, .int .i64 n16_2]) w2) ∧
  ((n16_2 != 0) = false →
  Calls Tryz.prog 46 #[.slice p16_0 l16_0 c16_0, .slice p16_1 l16_1 c16_1] w2 fun e_1 w3 => ∃ (p26_0 : Option Addr) (l26_0 c26_0 : Nat), ∃ n26_1 : Int, e_1 = .returned (.tuple #[.slice p26_0 l26_0 c26_0, .int .i64 n26_1]) ∧
  ((n26_1 != 0) = true →
  R (.tuple #[.slice none 0 0, .slice none 0 0, .int .i64 n26_1]) w3) ∧
  ((n26_1 != 0) = false →
  R (.tuple #[.slice p26_0 l26_0 c26_0, .slice p16_1 l16_1 c16_1, .int .i64 0]) w3))
theorem row_Filled_eq (n0_0 : Int) (n0_1 : Int) (n0_2 : Int) (p0_3 : Option Addr) (l0_3 c0_3 : Nat) (p0_4 : Option Addr) (l0_4 c0_4 : Nat) (n1 : Int) (n2 : Int) (w : World) (R : Value → World → Prop) : row_Filled n0_0 n0_1 n0_2 p0_3 l0_3 c0_3 p0_4 l0_4 c0_4 n1 n2 w R = fnP Tryz.prog Tryz.f18 .o [.agg #[.int .i64 n0_0, .int .i64 n0_1, .int .i64 n0_2, .slice p0_3 l0_3 c0_3, .slice p0_4 l0_4 c0_4], .int .i64 n1, .int .i64 n2] w R := by kernel_rfl
theorem row_Filled_calls {n0_0 : Int} {n0_1 : Int} {n0_2 : Int} {p0_3 : Option Addr} {l0_3 c0_3 : Nat} {p0_4 : Option Addr} {l0_4 c0_4 : Nat} {n1 : Int} {n2 : Int} {w : World} {R : Value → World → Prop} (h : row_Filled n0_0 n0_1 n0_2 p0_3 l0_3 c0_3 p0_4 l0_4 c0_4 n1 n2 w R) : Calls Tryz.prog 18 #[.agg #[.int .i64 n0_0, .int .i64 n0_1, .int .i64 n0_2, .slice p0_3 l0_3 c0_3, .slice p0_4 l0_4 c0_4], .int .i64 n1, .int .i64 n2] w fun e w1 => ∃ v, e = .returned v ∧ R v w1 := fnP_calls callable Tryz.func18 (row_Filled_eq n0_0 n0_1 n0_2 p0_3 l0_3 c0_3 p0_4 l0_4 c0_4 n1 n2 w R ▸ h)

/-- revetment/row.Flush -/
def row_Flush (n0_0 : Int) (n0_1 : Int) (n0_2 : Int) (p0_3 : Option Addr) (l0_3 c0_3 : Nat) (p0_4 : Option Addr) (l0_4 c0_4 : Nat) (w : World) (R : Value → World → Prop) : Prop :=
  Alloc #[.int .i64 n0_0, .int .i64 n0_1, .int .i64 n0_2, .slice p0_3 l0_3 c0_3, .slice p0_4 l0_4 c0_4] 30 w fun k1 w1 =>
  ∃ n6_0 : Int, ∃ n6_1 : Int, ∃ n6_2 : Int, ∃ (p6_3 : Option Addr) (l6_3 c6_3 : Nat), ∃ (p6_4 : Option Addr) (l6_4 c6_4 : Nat), (w1.cell? ⟨k1, 0, none⟩ = some (.int .i64 n6_0) ∧ w1.cell? ⟨k1, 1, none⟩ = some (.int .i64 n6_1) ∧ w1.cell? ⟨k1, 2, none⟩ = some (.int .i64 n6_2) ∧ w1.cell? ⟨k1, 3, none⟩ = some (.slice p6_3 l6_3 c6_3) ∧ w1.cell? ⟨k1, 4, none⟩ = some (.slice p6_4 l6_4 c6_4)) ∧
  Calls Tryz.prog 21 #[.agg #[.int .i64 n6_0, .int .i64 n6_1, .int .i64 n6_2, .slice p6_3 l6_3 c6_3, .slice p6_4 l6_4 c6_4]] w1 fun e w2 => ∃ b7 : Bool, e = .returned (.bool b7) ∧
  ((!b7) = true →
  R (.int .i64 1) w2) ∧
  ((!b7) = false →
  ∃ (p10 : Option Addr) (l10 c10 : Nat), w2.cell? ⟨k1, 3, none⟩ = some (.slice p10 l10 c10) ∧
  LoopP (fun I => I [.bool false, .int .i64 0] w2) fun K vs w3 => ∃ b3 : Bool, ∃ n12 : Int, vs = [.bool b3, .int .i64 n12] ∧
  ((decide (n12 < (l10 : Int))) = true →
  ∃ n15_0 : Int, ∃ n15_1 : Int, ∃ n15_2 : Int, ∃ (p15_3 : Option Addr) (l15_3 c15_3 : Nat), ∃ (p15_4 : Option Addr) (l15_4 c15_4 : Nat), (w3.cell? ⟨k1, 0, none⟩ = some (.int .i64 n15_0) ∧ w3.cell? ⟨k1, 1, none⟩ = some (.int .i64 n15_1) ∧ w3.cell? ⟨k1, 2, none⟩ = some (.int .i64 n15_2) ∧ w3.cell? ⟨k1, 3, none⟩ = some (.slice p15_3 l15_3 c15_3) ∧ w3.cell? ⟨k1, 4, none⟩ = some (.slice p15_4 l15_4 c15_4)) ∧
  Calls Tryz.prog 39 #[.agg #[.int .i64 n15_0, .int .i64 n15_1, .int .i64 n15_2, .slice p15_3 l15_3 c15_3, .slice p15_4 l15_4 c15_4], .int .i64 n12] w3 fun e_1 w4 => ∃ p17 : Option Addr, e_1 = .returned (.pointer p17) ∧
  ((!(Option.isNone p17)) = true →
  Calls Tryz.prog 47 #[.pointer p17] w4 fun e_2 w5 => ∃ n22 : Int, e_2 = .returned (.int .i64 n22) ∧
  ((n22 == 42) = true →
  K [.bool true, .int .i64 (IntKind.i64.wrap (n12 + 1))] w5) ∧
  ((n22 == 42) = false →
  K [.bool b3, .int .i64 (IntKind.i64.wrap (n12 + 1))] w5)) ∧
  ((!(Option.isNone p17)) = false →
  K [.bool b3, .int .i64 (IntKind.i64.wrap (n12 + 1))] w4)) ∧
  ((decide (n12 < (l10 : Int))) = false →
  (b3 = true →
  R (.int .i64 42) w3) ∧
  (b3 = false →
  R (.int .i64 0) w3)))
theorem row_Flush_eq (n0_0 : Int) (n0_1 : Int) (n0_2 : Int) (p0_3 : Option Addr) (l0_3 c0_3 : Nat) (p0_4 : Option Addr) (l0_4 c0_4 : Nat) (w : World) (R : Value → World → Prop) : row_Flush n0_0 n0_1 n0_2 p0_3 l0_3 c0_3 p0_4 l0_4 c0_4 w R = fnP Tryz.prog Tryz.f19 (.s .o (.s .o (.s .o (.s (.s .o (.b (.l [(3, .one .bool), (12, .one (.int .i64))] .o))) .o)))) [.agg #[.int .i64 n0_0, .int .i64 n0_1, .int .i64 n0_2, .slice p0_3 l0_3 c0_3, .slice p0_4 l0_4 c0_4]] w R := by kernel_rfl
theorem row_Flush_calls {n0_0 : Int} {n0_1 : Int} {n0_2 : Int} {p0_3 : Option Addr} {l0_3 c0_3 : Nat} {p0_4 : Option Addr} {l0_4 c0_4 : Nat} {w : World} {R : Value → World → Prop} (h : row_Flush n0_0 n0_1 n0_2 p0_3 l0_3 c0_3 p0_4 l0_4 c0_4 w R) : Calls Tryz.prog 19 #[.agg #[.int .i64 n0_0, .int .i64 n0_1, .int .i64 n0_2, .slice p0_3 l0_3 c0_3, .slice p0_4 l0_4 c0_4]] w fun e w1 => ∃ v, e = .returned v ∧ R v w1 := fnP_calls callable Tryz.func19 (row_Flush_eq n0_0 n0_1 n0_2 p0_3 l0_3 c0_3 p0_4 l0_4 c0_4 w R ▸ h)

/-- revetment/row.May -/
def row_May (n0_0 : Int) (n0_1 : Int) (n0_2 : Int) (p0_3 : Option Addr) (l0_3 c0_3 : Nat) (p0_4 : Option Addr) (l0_4 c0_4 : Nat) (w : World) (R : Value → World → Prop) : Prop :=
  Alloc #[.int .i64 n0_0, .int .i64 n0_1, .int .i64 n0_2, .slice p0_3 l0_3 c0_3, .slice p0_4 l0_4 c0_4] 30 w fun k1 w1 =>
  ∃ n6_0 : Int, ∃ n6_1 : Int, ∃ n6_2 : Int, (w1.cell? ⟨k1, 0, none⟩ = some (.int .i64 n6_0) ∧ w1.cell? ⟨k1, 1, none⟩ = some (.int .i64 n6_1) ∧ w1.cell? ⟨k1, 2, none⟩ = some (.int .i64 n6_2)) ∧
  Calls Tryz.prog 53 #[.agg #[.int .i64 n6_0, .int .i64 n6_1, .int .i64 n6_2]] w1 fun e w2 => ∃ n7 : Int, e = .returned (.int .i64 n7) ∧
  ((n7 == 0) = true →
  ∃ (p11 : Option Addr) (l11 c11 : Nat), w2.cell? ⟨k1, 3, none⟩ = some (.slice p11 l11 c11) ∧
  ∃ n15 : Int, w2.cell? ⟨k1, 0, none⟩ = some (.int .i64 n15) ∧
  (((l11 : Int) == n15) = true →
  ∃ (p20 : Option Addr) (l20 c20 : Nat), w2.cell? ⟨k1, 4, none⟩ = some (.slice p20 l20 c20) ∧
  ∃ n24 : Int, w2.cell? ⟨k1, 0, none⟩ = some (.int .i64 n24) ∧
  (((l20 : Int) == n24) = true →
  ∃ (p29 : Option Addr) (l29 c29 : Nat), w2.cell? ⟨k1, 3, none⟩ = some (.slice p29 l29 c29) ∧
  Calls Tryz.prog 54 #[.slice p29 l29 c29, .func (.func 50) #[] #[.pointer (some ⟨k1, 0, none⟩)]] w2 fun e_1 w3 => ∃ b31 : Bool, e_1 = .returned (.bool b31) ∧
  R (.bool (!b31)) w3) ∧
  (((l20 : Int) == n24) = false →
  R (.bool false) w2)) ∧
  (((l11 : Int) == n15) = false →
  R (.bool false) w2)) ∧
  ((n7 == 0) = false →
  R (.bool false) w2)
theorem row_May_eq (n0_0 : Int) (n0_1 : Int) (n0_2 : Int) (p0_3 : Option Addr) (l0_3 c0_3 : Nat) (p0_4 : Option Addr) (l0_4 c0_4 : Nat) (w : World) (R : Value → World → Prop) : row_May n0_0 n0_1 n0_2 p0_3 l0_3 c0_3 p0_4 l0_4 c0_4 w R = fnP Tryz.prog Tryz.f21 .o [.agg #[.int .i64 n0_0, .int .i64 n0_1, .int .i64 n0_2, .slice p0_3 l0_3 c0_3, .slice p0_4 l0_4 c0_4]] w R := by kernel_rfl
theorem row_May_calls {n0_0 : Int} {n0_1 : Int} {n0_2 : Int} {p0_3 : Option Addr} {l0_3 c0_3 : Nat} {p0_4 : Option Addr} {l0_4 c0_4 : Nat} {w : World} {R : Value → World → Prop} (h : row_May n0_0 n0_1 n0_2 p0_3 l0_3 c0_3 p0_4 l0_4 c0_4 w R) : Calls Tryz.prog 21 #[.agg #[.int .i64 n0_0, .int .i64 n0_1, .int .i64 n0_2, .slice p0_3 l0_3 c0_3, .slice p0_4 l0_4 c0_4]] w fun e w1 => ∃ v, e = .returned v ∧ R v w1 := fnP_calls callable Tryz.func21 (row_May_eq n0_0 n0_1 n0_2 p0_3 l0_3 c0_3 p0_4 l0_4 c0_4 w R ▸ h)

/-- revetment/row.Lost -/
def row_Lost (n0_0 : Int) (n0_1 : Int) (n0_2 : Int) (p0_3 : Option Addr) (l0_3 c0_3 : Nat) (p0_4 : Option Addr) (l0_4 c0_4 : Nat) (n1 : Int) (w : World) (R : Value → World → Prop) : Prop :=
  Alloc #[.int .i64 n0_0, .int .i64 n0_1, .int .i64 n0_2, .slice p0_3 l0_3 c0_3, .slice p0_4 l0_4 c0_4] 30 w fun k2 w1 =>
  ∃ n11_0 : Int, ∃ n11_1 : Int, ∃ n11_2 : Int, ∃ (p11_3 : Option Addr) (l11_3 c11_3 : Nat), ∃ (p11_4 : Option Addr) (l11_4 c11_4 : Nat), (w1.cell? ⟨k2, 0, none⟩ = some (.int .i64 n11_0) ∧ w1.cell? ⟨k2, 1, none⟩ = some (.int .i64 n11_1) ∧ w1.cell? ⟨k2, 2, none⟩ = some (.int .i64 n11_2) ∧ w1.cell? ⟨k2, 3, none⟩ = some (.slice p11_3 l11_3 c11_3) ∧ w1.cell? ⟨k2, 4, none⟩ = some (.slice p11_4 l11_4 c11_4)) ∧
  Calls Tryz.prog 38 #[.agg #[.int .i64 n11_0, .int .i64 n11_1, .int .i64 n11_2, .slice p11_3 l11_3 c11_3, .slice p11_4 l11_4 c11_4], .int .i64 n1, .int .i64 0] w1 fun e w2 => ∃ n13_0_0 : Int, ∃ n13_0_1 : Int, ∃ n13_0_2 : Int, ∃ (p13_0_3 : Option Addr) (l13_0_3 c13_0_3 : Nat), ∃ (p13_0_4 : Option Addr) (l13_0_4 c13_0_4 : Nat), ∃ n13_0_5 : Int, ∃ n13_0_6 : Int, ∃ n13_1 : Int, e = .returned (.tuple #[.agg #[.int .i64 n13_0_0, .int .i64 n13_0_1, .int .i64 n13_0_2, .slice p13_0_3 l13_0_3 c13_0_3, .slice p13_0_4 l13_0_4 c13_0_4, .int .i64 n13_0_5, .int .i64 n13_0_6], .int .i64 n13_1]) ∧
  Alloc #[.int .i64 0, .int .i64 0, .int .i64 0, .slice none 0 0, .slice none 0 0, .int .i64 0, .int .i64 0] 74 w2 fun k6 w3 =>
  St ⟨k6, 0, none⟩ (.int .i64 n13_0_0) w3 fun w4 =>
  St ⟨k6, 1, none⟩ (.int .i64 n13_0_1) w4 fun w5 =>
  St ⟨k6, 2, none⟩ (.int .i64 n13_0_2) w5 fun w6 =>
  St ⟨k6, 3, none⟩ (.slice p13_0_3 l13_0_3 c13_0_3) w6 fun w7 =>
  St ⟨k6, 4, none⟩ (.slice p13_0_4 l13_0_4 c13_0_4) w7 fun w8 =>
  St ⟨k6, 5, none⟩ (.int .i64 n13_0_5) w8 fun w9 =>
  St ⟨k6, 6, none⟩ (.int .i64 n13_0_6) w9 fun w10 =>
  ((n13_1 != 0) = true →
  R (.tuple #[.slice none 0 0, .int .i64 n13_1]) w10) ∧
  ((n13_1 != 0) = false →
  ∃ n21 : Int, w10.cell? ⟨k2, 0, none⟩ = some (.int .i64 n21) ∧
  LoopP (fun I => I [.slice none 0 0, .int .i64 0] w10) fun K vs w11 => ∃ (p8 : Option Addr) (l8 c8 : Nat), ∃ n22 : Int, vs = [.slice p8 l8 c8, .int .i64 n22] ∧
  ((decide (n22 < n21)) = true →
  ∃ n25_0 : Int, ∃ n25_1 : Int, ∃ n25_2 : Int, ∃ (p25_3 : Option Addr) (l25_3 c25_3 : Nat), ∃ (p25_4 : Option Addr) (l25_4 c25_4 : Nat), ∃ n25_5 : Int, ∃ n25_6 : Int, (w11.cell? ⟨k6, 0, none⟩ = some (.int .i64 n25_0) ∧ w11.cell? ⟨k6, 1, none⟩ = some (.int .i64 n25_1) ∧ w11.cell? ⟨k6, 2, none⟩ = some (.int .i64 n25_2) ∧ w11.cell? ⟨k6, 3, none⟩ = some (.slice p25_3 l25_3 c25_3) ∧ w11.cell? ⟨k6, 4, none⟩ = some (.slice p25_4 l25_4 c25_4) ∧ w11.cell? ⟨k6, 5, none⟩ = some (.int .i64 n25_5) ∧ w11.cell? ⟨k6, 6, none⟩ = some (.int .i64 n25_6)) ∧
  Calls Tryz.prog 55 #[.agg #[.int .i64 n25_0, .int .i64 n25_1, .int .i64 n25_2, .slice p25_3 l25_3 c25_3, .slice p25_4 l25_4 c25_4, .int .i64 n25_5, .int .i64 n25_6], .int .i64 n22] w11 fun e_1 w12 => ∃ p27 : Option Addr, e_1 = .returned (.pointer p27) ∧
  ((Option.isNone p27) = true →
  Alloc #[.int .i64 n22] 3 w12 fun k31 w13 =>
  ∃ (p32 : Option Addr) (l32 c32 : Nat), ∃ w14, (builtin .append #[28, 28] 28 #[false, false] #[.slice p8 l8 c8, .slice (some ⟨k31, 0, none⟩) 1 1]).run Tryz.prog w13 = .ok (.value (.slice p32 l32 c32)) w14 ∧
  K [.slice p32 l32 c32, .int .i64 (IntKind.i64.wrap (n22 + 1))] w14) ∧
  ((Option.isNone p27) = false →
  K [.slice p8 l8 c8, .int .i64 (IntKind.i64.wrap (n22 + 1))] w12)) ∧
  ((decide (n22 < n21)) = false →
  R (.tuple #[.slice p8 l8 c8, .int .i64 0]) w11))
theorem row_Lost_eq (n0_0 : Int) (n0_1 : Int) (n0_2 : Int) (p0_3 : Option Addr) (l0_3 c0_3 : Nat) (p0_4 : Option Addr) (l0_4 c0_4 : Nat) (n1 : Int) (w : World) (R : Value → World → Prop) : row_Lost n0_0 n0_1 n0_2 p0_3 l0_3 c0_3 p0_4 l0_4 c0_4 n1 w R = fnP Tryz.prog Tryz.f22 (.s .o (.s .o (.s .o (.s .o (.s (.s .o (.b (.l [(8, .one .slice), (22, .one (.int .i64))] .o))) .o))))) [.agg #[.int .i64 n0_0, .int .i64 n0_1, .int .i64 n0_2, .slice p0_3 l0_3 c0_3, .slice p0_4 l0_4 c0_4], .int .i64 n1] w R := by kernel_rfl
theorem row_Lost_calls {n0_0 : Int} {n0_1 : Int} {n0_2 : Int} {p0_3 : Option Addr} {l0_3 c0_3 : Nat} {p0_4 : Option Addr} {l0_4 c0_4 : Nat} {n1 : Int} {w : World} {R : Value → World → Prop} (h : row_Lost n0_0 n0_1 n0_2 p0_3 l0_3 c0_3 p0_4 l0_4 c0_4 n1 w R) : Calls Tryz.prog 22 #[.agg #[.int .i64 n0_0, .int .i64 n0_1, .int .i64 n0_2, .slice p0_3 l0_3 c0_3, .slice p0_4 l0_4 c0_4], .int .i64 n1] w fun e w1 => ∃ v, e = .returned v ∧ R v w1 := fnP_calls callable Tryz.func22 (row_Lost_eq n0_0 n0_1 n0_2 p0_3 l0_3 c0_3 p0_4 l0_4 c0_4 n1 w R ▸ h)

/-- revetment/revetmentlaw16.heavy -/
def revetmentlaw16_heavy (p0 : Option Addr) (l0 c0 : Nat) (w : World) (R : Value → World → Prop) : Prop :=
  ((decide ((l0 : Int) > 80)) = true →
  R (.bool true) w) ∧
  ((decide ((l0 : Int) > 80)) = false →
  LoopP (fun I => I [.int .i64 0] w) fun K vs w1 => ∃ n3 : Int, vs = [.int .i64 n3] ∧
  ((decide (n3 < (l0 : Int))) = true →
  ∃ a15 : Addr, p0 = some a15 ∧ (0 : Int) ≤ n3 ∧ n3 < (l0 : Int) ∧
  ∃ s17 : ByteArray, w1.cell? (Addr.add (Addr.add a15 (n3.toNat * 6)) 5) = some (.string s17) ∧
  ((decide ((s17.size : Int) > 100)) = true →
  R (.bool true) w1) ∧
  ((decide ((s17.size : Int) > 100)) = false →
  K [.int .i64 (IntKind.i64.wrap (n3 + 1))] w1)) ∧
  ((decide (n3 < (l0 : Int))) = false →
  R (.bool false) w1))
theorem revetmentlaw16_heavy_eq (p0 : Option Addr) (l0 c0 : Nat) (w : World) (R : Value → World → Prop) : revetmentlaw16_heavy p0 l0 c0 w R = fnP Tryz.prog Tryz.f23 (.s .o (.s .o (.s (.s .o (.b (.l [(3, .one (.int .i64))] .o))) .o))) [.slice p0 l0 c0] w R := by kernel_rfl
theorem revetmentlaw16_heavy_calls {p0 : Option Addr} {l0 c0 : Nat} {w : World} {R : Value → World → Prop} (h : revetmentlaw16_heavy p0 l0 c0 w R) : Calls Tryz.prog 23 #[.slice p0 l0 c0] w fun e w1 => ∃ v, e = .returned v ∧ R v w1 := fnP_calls callable Tryz.func23 (revetmentlaw16_heavy_eq p0 l0 c0 w R ▸ h)

/-- revetment/revetmentlaw16.does -/
def revetmentlaw16_does (n0_0 : Int) (n0_1 : Int) (n0_2 : Int) (p0_3 : Option Addr) (l0_3 c0_3 : Nat) (p0_4 : Option Addr) (l0_4 c0_4 : Nat) (n1_0 : Int) (n1_1 : Int) (n1_2 : Int) (p1_3 : Option Addr) (l1_3 c1_3 : Nat) (p1_4 : Option Addr) (l1_4 c1_4 : Nat) (n2_0 : Int) (n2_1 : Int) (n2_2 : Int) (n2_3 : Int) (n2_4 : Int) (s2_5 : ByteArray) (w : World) (R : Value → World → Prop) : Prop :=
  Alloc #[.int .i64 n0_0, .int .i64 n0_1, .int .i64 n0_2, .slice p0_3 l0_3 c0_3, .slice p0_4 l0_4 c0_4] 30 w fun k3 w1 =>
  Alloc #[.int .i64 n1_0, .int .i64 n1_1, .int .i64 n1_2, .slice p1_3 l1_3 c1_3, .slice p1_4 l1_4 c1_4] 33 w1 fun k4 w2 =>
  Alloc #[.int .i64 n2_0, .int .i64 n2_1, .int .i64 n2_2, .int .i64 n2_3, .int .u8 n2_4, .string s2_5] 57 w2 fun k5 w3 =>
  ∃ n11 : Int, w3.cell? ⟨k5, 4, none⟩ = some (.int .u8 n11) ∧
  ∃ (p14 : Option Addr) (l14 c14 : Nat), w3.cell? ⟨k3, 3, none⟩ = some (.slice p14 l14 c14) ∧
  (l14 : Int) ≠ 0 ∧
  ∃ (p18 : Option Addr) (l18 c18 : Nat), w3.cell? ⟨k3, 3, none⟩ = some (.slice p18 l18 c18) ∧
  ∃ a20 : Addr, p18 = some a20 ∧ (0 : Int) ≤ Int.tmod (IntKind.i64.wrap n11) (l14 : Int) ∧ (Int.tmod (IntKind.i64.wrap n11) (l14 : Int)) < (l18 : Int) ∧
  ∃ p21 : Option Addr, w3.cell? (Addr.add a20 ((Int.tmod (IntKind.i64.wrap n11) (l14 : Int)).toNat * 1)) = some (.pointer p21) ∧
  ∃ (p23 : Option Addr) (l23 c23 : Nat), w3.cell? ⟨k4, 3, none⟩ = some (.slice p23 l23 c23) ∧
  ∃ a25 : Addr, p23 = some a25 ∧ (0 : Int) ≤ Int.tmod (IntKind.i64.wrap n11) (l14 : Int) ∧ (Int.tmod (IntKind.i64.wrap n11) (l14 : Int)) < (l23 : Int) ∧
  ∃ p26 : Option Addr, w3.cell? (Addr.add a25 ((Int.tmod (IntKind.i64.wrap n11) (l14 : Int)).toNat * 1)) = some (.pointer p26) ∧
  ∃ n28 : Int, w3.cell? ⟨k5, 0, none⟩ = some (.int .i64 n28) ∧
  ((n28 == 0) = true →
  ∃ D : World → Prop, D w3.drew ∧
  ∃ n31_0 : Int, ∃ n31_1 : Int, ∃ n31_2 : Int, ∃ (p31_3 : Option Addr) (l31_3 c31_3 : Nat), ∃ (p31_4 : Option Addr) (l31_4 c31_4 : Nat), (∀ w, D w → w.cell? ⟨k3, 0, none⟩ = some (.int .i64 n31_0) ∧ w.cell? ⟨k3, 1, none⟩ = some (.int .i64 n31_1) ∧ w.cell? ⟨k3, 2, none⟩ = some (.int .i64 n31_2) ∧ w.cell? ⟨k3, 3, none⟩ = some (.slice p31_3 l31_3 c31_3) ∧ w.cell? ⟨k3, 4, none⟩ = some (.slice p31_4 l31_4 c31_4)) ∧
  ∃ n33 : Int, (∀ w, D w → w.cell? ⟨k5, 1, none⟩ = some (.int .i64 n33)) ∧
  ∃ n35 : Int, (∀ w, D w → w.cell? ⟨k5, 2, none⟩ = some (.int .i64 n35)) ∧
  ∃ n37 : Int, (∀ w, D w → w.cell? ⟨k5, 3, none⟩ = some (.int .i64 n37)) ∧
  ∃ s39 : ByteArray, (∀ w, D w → w.cell? ⟨k5, 5, none⟩ = some (.string s39)) ∧
  Calls Tryz.prog 10 #[.string s39] w3.drew fun e w4 => ∃ s40 : ByteArray, e = .returned (.string s40) ∧
  D w4 ∧
  Calls Tryz.prog 13 #[.agg #[.int .i64 n31_0, .int .i64 n31_1, .int .i64 n31_2, .slice p31_3 l31_3 c31_3, .slice p31_4 l31_4 c31_4], .int .i64 n33, .int .i64 n35, .int .i64 n37, .string s40] w4 fun e_1 w5 => ∃ n41 : Int, e_1 = .returned (.int .i64 n41) ∧
  D w5 ∧
  ∃ n42_0 : Int, ∃ n42_1 : Int, ∃ n42_2 : Int, ∃ (p42_3 : Option Addr) (l42_3 c42_3 : Nat), ∃ (p42_4 : Option Addr) (l42_4 c42_4 : Nat), (∀ w, D w → w.cell? ⟨k4, 0, none⟩ = some (.int .i64 n42_0) ∧ w.cell? ⟨k4, 1, none⟩ = some (.int .i64 n42_1) ∧ w.cell? ⟨k4, 2, none⟩ = some (.int .i64 n42_2) ∧ w.cell? ⟨k4, 3, none⟩ = some (.slice p42_3 l42_3 c42_3) ∧ w.cell? ⟨k4, 4, none⟩ = some (.slice p42_4 l42_4 c42_4)) ∧
  ∃ n44 : Int, (∀ w, D w → w.cell? ⟨k5, 1, none⟩ = some (.int .i64 n44)) ∧
  ∃ n46 : Int, (∀ w, D w → w.cell? ⟨k5, 2, none⟩ = some (.int .i64 n46)) ∧
  ∃ n48 : Int, (∀ w, D w → w.cell? ⟨k5, 3, none⟩ = some (.int .i64 n48)) ∧
  ∃ s50 : ByteArray, (∀ w, D w → w.cell? ⟨k5, 5, none⟩ = some (.string s50)) ∧
  Calls Tryz.prog 10 #[.string s50] w5 fun e_2 w6 => ∃ s51 : ByteArray, e_2 = .returned (.string s51) ∧
  D w6 ∧
  Calls Tryz.prog 56 #[.agg #[.int .i64 n42_0, .int .i64 n42_1, .int .i64 n42_2, .slice p42_3 l42_3 c42_3, .slice p42_4 l42_4 c42_4], .int .i64 n44, .int .i64 n46, .int .i64 n48, .string s51] w6 fun e_3 w7 => ∃ n52 : Int, e_3 = .returned (.int .i64 n52) ∧
  D w7 ∧
  R (.bool (n41 == n52)) w7) ∧
  ((n28 == 0) = false →
  ((n28 == 1) = true →
  ∃ D_1 : World → Prop, D_1 w3.drew ∧
  ∃ n56_0 : Int, ∃ n56_1 : Int, ∃ n56_2 : Int, ∃ (p56_3 : Option Addr) (l56_3 c56_3 : Nat), ∃ (p56_4 : Option Addr) (l56_4 c56_4 : Nat), (∀ w, D_1 w → w.cell? ⟨k3, 0, none⟩ = some (.int .i64 n56_0) ∧ w.cell? ⟨k3, 1, none⟩ = some (.int .i64 n56_1) ∧ w.cell? ⟨k3, 2, none⟩ = some (.int .i64 n56_2) ∧ w.cell? ⟨k3, 3, none⟩ = some (.slice p56_3 l56_3 c56_3) ∧ w.cell? ⟨k3, 4, none⟩ = some (.slice p56_4 l56_4 c56_4)) ∧
  ∃ n58 : Int, (∀ w, D_1 w → w.cell? ⟨k5, 1, none⟩ = some (.int .i64 n58)) ∧
  ∃ n60 : Int, (∀ w, D_1 w → w.cell? ⟨k5, 2, none⟩ = some (.int .i64 n60)) ∧
  ∃ n62 : Int, (∀ w, D_1 w → w.cell? ⟨k5, 3, none⟩ = some (.int .i64 n62)) ∧
  ∃ s64 : ByteArray, (∀ w, D_1 w → w.cell? ⟨k5, 5, none⟩ = some (.string s64)) ∧
  Calls Tryz.prog 13 #[.agg #[.int .i64 n56_0, .int .i64 n56_1, .int .i64 n56_2, .slice p56_3 l56_3 c56_3, .slice p56_4 l56_4 c56_4], .int .i64 n58, .int .i64 n60, .int .i64 n62, .string s64] w3.drew fun e_4 w8 => ∃ n65 : Int, e_4 = .returned (.int .i64 n65) ∧
  D_1 w8 ∧
  ∃ n66_0 : Int, ∃ n66_1 : Int, ∃ n66_2 : Int, ∃ (p66_3 : Option Addr) (l66_3 c66_3 : Nat), ∃ (p66_4 : Option Addr) (l66_4 c66_4 : Nat), (∀ w, D_1 w → w.cell? ⟨k4, 0, none⟩ = some (.int .i64 n66_0) ∧ w.cell? ⟨k4, 1, none⟩ = some (.int .i64 n66_1) ∧ w.cell? ⟨k4, 2, none⟩ = some (.int .i64 n66_2) ∧ w.cell? ⟨k4, 3, none⟩ = some (.slice p66_3 l66_3 c66_3) ∧ w.cell? ⟨k4, 4, none⟩ = some (.slice p66_4 l66_4 c66_4)) ∧
  ∃ n68 : Int, (∀ w, D_1 w → w.cell? ⟨k5, 1, none⟩ = some (.int .i64 n68)) ∧
  ∃ n70 : Int, (∀ w, D_1 w → w.cell? ⟨k5, 2, none⟩ = some (.int .i64 n70)) ∧
  ∃ n72 : Int, (∀ w, D_1 w → w.cell? ⟨k5, 3, none⟩ = some (.int .i64 n72)) ∧
  ∃ s74 : ByteArray, (∀ w, D_1 w → w.cell? ⟨k5, 5, none⟩ = some (.string s74)) ∧
  Calls Tryz.prog 56 #[.agg #[.int .i64 n66_0, .int .i64 n66_1, .int .i64 n66_2, .slice p66_3 l66_3 c66_3, .slice p66_4 l66_4 c66_4], .int .i64 n68, .int .i64 n70, .int .i64 n72, .string s74] w8 fun e_5 w9 => ∃ n75 : Int, e_5 = .returned (.int .i64 n75) ∧
  D_1 w9 ∧
  R (.bool (n65 == n75)) w9) ∧
  ((n28 == 1) = false →
  ((n28 == 2) = true →
  ∃ D_2 : World → Prop, D_2 w3.drew ∧
  ((Option.isNone p21) = true →
  R (.bool true) w3.drew) ∧
  ((Option.isNone p21) = false →
  ∃ n84 : Int, (∀ w, D_2 w → w.cell? ⟨k5, 1, none⟩ = some (.int .i64 n84)) ∧
  Calls Tryz.prog 14 #[.pointer p21, .int .i64 n84] w3.drew fun e_6 w10 => ∃ n85 : Int, e_6 = .returned (.int .i64 n85) ∧
  D_2 w10 ∧
  ∃ n88 : Int, (∀ w, D_2 w → w.cell? ⟨k5, 1, none⟩ = some (.int .i64 n88)) ∧
  Calls Tryz.prog 57 #[.pointer p26, .int .i64 n88] w10 fun e_7 w11 => ∃ n89 : Int, e_7 = .returned (.int .i64 n89) ∧
  D_2 w11 ∧
  R (.bool (n85 == n89)) w11)) ∧
  ((n28 == 2) = false →
  ((n28 == 3) = true →
  ((!(Option.isNone p21)) = true →
  Calls Tryz.prog 15 #[.pointer p21] w3 fun e_8 w12 => e_8 = .returned (.tuple #[]) ∧
  ∃ a99 : Addr, p26 = some a99 ∧
  St (a99.add 3) (.bool true) w12 fun w13 =>
  R (.bool true) w13) ∧
  ((!(Option.isNone p21)) = false →
  R (.bool true) w3)) ∧
  ((n28 == 3) = false →
  ((n28 == 4) = true →
  ∃ (p104 : Option Addr) (l104 c104 : Nat), w3.cell? ⟨k3, 3, none⟩ = some (.slice p104 l104 c104) ∧
  ∃ a106 : Addr, p104 = some a106 ∧ (0 : Int) ≤ Int.tmod (IntKind.i64.wrap n11) (l14 : Int) ∧ (Int.tmod (IntKind.i64.wrap n11) (l14 : Int)) < (l104 : Int) ∧
  St (Addr.add a106 ((Int.tmod (IntKind.i64.wrap n11) (l14 : Int)).toNat * 1)) (.pointer none) w3 fun w14 =>
  ∃ (p108 : Option Addr) (l108 c108 : Nat), w14.cell? ⟨k4, 3, none⟩ = some (.slice p108 l108 c108) ∧
  ∃ a110 : Addr, p108 = some a110 ∧ (0 : Int) ≤ Int.tmod (IntKind.i64.wrap n11) (l14 : Int) ∧ (Int.tmod (IntKind.i64.wrap n11) (l14 : Int)) < (l108 : Int) ∧
  St (Addr.add a110 ((Int.tmod (IntKind.i64.wrap n11) (l14 : Int)).toNat * 1)) (.pointer none) w14 fun w15 =>
  R (.bool true) w15) ∧
  ((n28 == 4) = false →
  ((n28 == 5) = true →
  ∃ (p114 : Option Addr) (l114 c114 : Nat), w3.cell? ⟨k3, 4, none⟩ = some (.slice p114 l114 c114) ∧
  ∃ n117 : Int, w3.cell? ⟨k5, 1, none⟩ = some (.int .i64 n117) ∧
  ∃ a118 : Addr, p114 = some a118 ∧ (0 : Int) ≤ Int.tmod (IntKind.i64.wrap n11) (l14 : Int) ∧ (Int.tmod (IntKind.i64.wrap n11) (l14 : Int)) < (l114 : Int) ∧
  St (Addr.add a118 ((Int.tmod (IntKind.i64.wrap n11) (l14 : Int)).toNat * 1)) (.int .i64 n117) w3 fun w16 =>
  ∃ (p120 : Option Addr) (l120 c120 : Nat), w16.cell? ⟨k4, 4, none⟩ = some (.slice p120 l120 c120) ∧
  ∃ n123 : Int, w16.cell? ⟨k5, 1, none⟩ = some (.int .i64 n123) ∧
  ∃ a124 : Addr, p120 = some a124 ∧ (0 : Int) ≤ Int.tmod (IntKind.i64.wrap n11) (l14 : Int) ∧ (Int.tmod (IntKind.i64.wrap n11) (l14 : Int)) < (l120 : Int) ∧
  St (Addr.add a124 ((Int.tmod (IntKind.i64.wrap n11) (l14 : Int)).toNat * 1)) (.int .i64 n123) w16 fun w17 =>
  R (.bool true) w17) ∧
  ((n28 == 5) = false →
  ((n28 == 6) = true →
  ((!(Option.isNone p21)) = true →
  ∃ n131 : Int, w3.cell? ⟨k5, 2, none⟩ = some (.int .i64 n131) ∧
  Calls Tryz.prog 58 #[.pointer p21, .int .i64 n131] w3 fun e_9 w18 => e_9 = .returned (.tuple #[]) ∧
  ∃ n135 : Int, w18.cell? ⟨k5, 2, none⟩ = some (.int .i64 n135) ∧
  Calls Tryz.prog 59 #[.pointer p26, .int .i64 n135] w18 fun e_10 w19 => e_10 = .returned (.tuple #[]) ∧
  R (.bool true) w19) ∧
  ((!(Option.isNone p21)) = false →
  R (.bool true) w3)) ∧
  ((n28 == 6) = false →
  ((n28 == 7) = true →
  ∃ D_3 : World → Prop, D_3 w3.drew ∧
  ∃ n139_0 : Int, ∃ n139_1 : Int, ∃ n139_2 : Int, ∃ (p139_3 : Option Addr) (l139_3 c139_3 : Nat), ∃ (p139_4 : Option Addr) (l139_4 c139_4 : Nat), (∀ w, D_3 w → w.cell? ⟨k3, 0, none⟩ = some (.int .i64 n139_0) ∧ w.cell? ⟨k3, 1, none⟩ = some (.int .i64 n139_1) ∧ w.cell? ⟨k3, 2, none⟩ = some (.int .i64 n139_2) ∧ w.cell? ⟨k3, 3, none⟩ = some (.slice p139_3 l139_3 c139_3) ∧ w.cell? ⟨k3, 4, none⟩ = some (.slice p139_4 l139_4 c139_4)) ∧
  Calls Tryz.prog 19 #[.agg #[.int .i64 n139_0, .int .i64 n139_1, .int .i64 n139_2, .slice p139_3 l139_3 c139_3, .slice p139_4 l139_4 c139_4]] w3.drew fun e_11 w20 => ∃ n140 : Int, e_11 = .returned (.int .i64 n140) ∧
  D_3 w20 ∧
  ∃ n141_0 : Int, ∃ n141_1 : Int, ∃ n141_2 : Int, ∃ (p141_3 : Option Addr) (l141_3 c141_3 : Nat), ∃ (p141_4 : Option Addr) (l141_4 c141_4 : Nat), (∀ w, D_3 w → w.cell? ⟨k4, 0, none⟩ = some (.int .i64 n141_0) ∧ w.cell? ⟨k4, 1, none⟩ = some (.int .i64 n141_1) ∧ w.cell? ⟨k4, 2, none⟩ = some (.int .i64 n141_2) ∧ w.cell? ⟨k4, 3, none⟩ = some (.slice p141_3 l141_3 c141_3) ∧ w.cell? ⟨k4, 4, none⟩ = some (.slice p141_4 l141_4 c141_4)) ∧
  Calls Tryz.prog 60 #[.agg #[.int .i64 n141_0, .int .i64 n141_1, .int .i64 n141_2, .slice p141_3 l141_3 c141_3, .slice p141_4 l141_4 c141_4]] w20 fun e_12 w21 => ∃ n142 : Int, e_12 = .returned (.int .i64 n142) ∧
  D_3 w21 ∧
  R (.bool (n140 == n142)) w21) ∧
  ((n28 == 7) = false →
  R (.bool true) w3))))))))
theorem revetmentlaw16_does_eq (n0_0 : Int) (n0_1 : Int) (n0_2 : Int) (p0_3 : Option Addr) (l0_3 c0_3 : Nat) (p0_4 : Option Addr) (l0_4 c0_4 : Nat) (n1_0 : Int) (n1_1 : Int) (n1_2 : Int) (p1_3 : Option Addr) (l1_3 c1_3 : Nat) (p1_4 : Option Addr) (l1_4 c1_4 : Nat) (n2_0 : Int) (n2_1 : Int) (n2_2 : Int) (n2_3 : Int) (n2_4 : Int) (s2_5 : ByteArray) (w : World) (R : Value → World → Prop) : revetmentlaw16_does n0_0 n0_1 n0_2 p0_3 l0_3 c0_3 p0_4 l0_4 c0_4 n1_0 n1_1 n1_2 p1_3 l1_3 c1_3 p1_4 l1_4 c1_4 n2_0 n2_1 n2_2 n2_3 n2_4 s2_5 w R = fnP Tryz.prog Tryz.f24 .o [.agg #[.int .i64 n0_0, .int .i64 n0_1, .int .i64 n0_2, .slice p0_3 l0_3 c0_3, .slice p0_4 l0_4 c0_4], .agg #[.int .i64 n1_0, .int .i64 n1_1, .int .i64 n1_2, .slice p1_3 l1_3 c1_3, .slice p1_4 l1_4 c1_4], .agg #[.int .i64 n2_0, .int .i64 n2_1, .int .i64 n2_2, .int .i64 n2_3, .int .u8 n2_4, .string s2_5]] w R := by kernel_rfl
theorem revetmentlaw16_does_calls {n0_0 : Int} {n0_1 : Int} {n0_2 : Int} {p0_3 : Option Addr} {l0_3 c0_3 : Nat} {p0_4 : Option Addr} {l0_4 c0_4 : Nat} {n1_0 : Int} {n1_1 : Int} {n1_2 : Int} {p1_3 : Option Addr} {l1_3 c1_3 : Nat} {p1_4 : Option Addr} {l1_4 c1_4 : Nat} {n2_0 : Int} {n2_1 : Int} {n2_2 : Int} {n2_3 : Int} {n2_4 : Int} {s2_5 : ByteArray} {w : World} {R : Value → World → Prop} (h : revetmentlaw16_does n0_0 n0_1 n0_2 p0_3 l0_3 c0_3 p0_4 l0_4 c0_4 n1_0 n1_1 n1_2 p1_3 l1_3 c1_3 p1_4 l1_4 c1_4 n2_0 n2_1 n2_2 n2_3 n2_4 s2_5 w R) : Calls Tryz.prog 24 #[.agg #[.int .i64 n0_0, .int .i64 n0_1, .int .i64 n0_2, .slice p0_3 l0_3 c0_3, .slice p0_4 l0_4 c0_4], .agg #[.int .i64 n1_0, .int .i64 n1_1, .int .i64 n1_2, .slice p1_3 l1_3 c1_3, .slice p1_4 l1_4 c1_4], .agg #[.int .i64 n2_0, .int .i64 n2_1, .int .i64 n2_2, .int .i64 n2_3, .int .u8 n2_4, .string s2_5]] w fun e w1 => ∃ v, e = .returned v ∧ R v w1 := fnP_calls callable Tryz.func24 (revetmentlaw16_does_eq n0_0 n0_1 n0_2 p0_3 l0_3 c0_3 p0_4 l0_4 c0_4 n1_0 n1_1 n1_2 p1_3 l1_3 c1_3 p1_4 l1_4 c1_4 n2_0 n2_1 n2_2 n2_3 n2_4 s2_5 w R ▸ h)

/-- (revetment/row.Set).at -/
def row_Set_at (n0_0 : Int) (n0_1 : Int) (n0_2 : Int) (p0_3 : Option Addr) (l0_3 c0_3 : Nat) (p0_4 : Option Addr) (l0_4 c0_4 : Nat) (n1 : Int) (n2 : Int) (w : World) (R : Value → World → Prop) : Prop :=
  Alloc #[.int .i64 n0_0, .int .i64 n0_1, .int .i64 n0_2, .slice p0_3 l0_3 c0_3, .slice p0_4 l0_4 c0_4] 30 w fun k3 w1 =>
  Alloc #[.int .i64 0, .int .i64 0, .int .i64 0, .slice none 0 0, .slice none 0 0, .int .i64 0, .int .i64 0] 74 w1 fun k6 w2 =>
  ∃ n9_0 : Int, ∃ n9_1 : Int, ∃ n9_2 : Int, ∃ (p9_3 : Option Addr) (l9_3 c9_3 : Nat), ∃ (p9_4 : Option Addr) (l9_4 c9_4 : Nat), (w2.cell? ⟨k3, 0, none⟩ = some (.int .i64 n9_0) ∧ w2.cell? ⟨k3, 1, none⟩ = some (.int .i64 n9_1) ∧ w2.cell? ⟨k3, 2, none⟩ = some (.int .i64 n9_2) ∧ w2.cell? ⟨k3, 3, none⟩ = some (.slice p9_3 l9_3 c9_3) ∧ w2.cell? ⟨k3, 4, none⟩ = some (.slice p9_4 l9_4 c9_4)) ∧
  Alloc #[.int .i64 0, .int .i64 0, .int .i64 0, .slice none 0 0, .slice none 0 0, .int .i64 0, .int .i64 0] 74 w2 fun k8 w3 =>
  St ⟨k8, 0, none⟩ (.int .i64 n9_0) w3 fun w4 =>
  St ⟨k8, 1, none⟩ (.int .i64 n9_1) w4 fun w5 =>
  St ⟨k8, 2, none⟩ (.int .i64 n9_2) w5 fun w6 =>
  St ⟨k8, 3, none⟩ (.slice p9_3 l9_3 c9_3) w6 fun w7 =>
  St ⟨k8, 4, none⟩ (.slice p9_4 l9_4 c9_4) w7 fun w8 =>
  St ⟨k8, 5, none⟩ (.int .i64 n1) w8 fun w9 =>
  St ⟨k8, 6, none⟩ (.int .i64 n2) w9 fun w10 =>
  ∃ n14_0 : Int, ∃ n14_1 : Int, ∃ n14_2 : Int, ∃ (p14_3 : Option Addr) (l14_3 c14_3 : Nat), ∃ (p14_4 : Option Addr) (l14_4 c14_4 : Nat), (w10.cell? ⟨k3, 0, none⟩ = some (.int .i64 n14_0) ∧ w10.cell? ⟨k3, 1, none⟩ = some (.int .i64 n14_1) ∧ w10.cell? ⟨k3, 2, none⟩ = some (.int .i64 n14_2) ∧ w10.cell? ⟨k3, 3, none⟩ = some (.slice p14_3 l14_3 c14_3) ∧ w10.cell? ⟨k3, 4, none⟩ = some (.slice p14_4 l14_4 c14_4)) ∧
  Calls Tryz.prog 21 #[.agg #[.int .i64 n14_0, .int .i64 n14_1, .int .i64 n14_2, .slice p14_3 l14_3 c14_3, .slice p14_4 l14_4 c14_4]] w10 fun e w11 => ∃ b15 : Bool, e = .returned (.bool b15) ∧
  ((!b15) = true →
  ∃ n17_0 : Int, ∃ n17_1 : Int, ∃ n17_2 : Int, ∃ (p17_3 : Option Addr) (l17_3 c17_3 : Nat), ∃ (p17_4 : Option Addr) (l17_4 c17_4 : Nat), ∃ n17_5 : Int, ∃ n17_6 : Int, (w11.cell? ⟨k8, 0, none⟩ = some (.int .i64 n17_0) ∧ w11.cell? ⟨k8, 1, none⟩ = some (.int .i64 n17_1) ∧ w11.cell? ⟨k8, 2, none⟩ = some (.int .i64 n17_2) ∧ w11.cell? ⟨k8, 3, none⟩ = some (.slice p17_3 l17_3 c17_3) ∧ w11.cell? ⟨k8, 4, none⟩ = some (.slice p17_4 l17_4 c17_4) ∧ w11.cell? ⟨k8, 5, none⟩ = some (.int .i64 n17_5) ∧ w11.cell? ⟨k8, 6, none⟩ = some (.int .i64 n17_6)) ∧
  St ⟨k6, 0, none⟩ (.int .i64 n17_0) w11 fun w12 =>
  St ⟨k6, 1, none⟩ (.int .i64 n17_1) w12 fun w13 =>
  St ⟨k6, 2, none⟩ (.int .i64 n17_2) w13 fun w14 =>
  St ⟨k6, 3, none⟩ (.slice p17_3 l17_3 c17_3) w14 fun w15 =>
  St ⟨k6, 4, none⟩ (.slice p17_4 l17_4 c17_4) w15 fun w16 =>
  St ⟨k6, 5, none⟩ (.int .i64 n17_5) w16 fun w17 =>
  St ⟨k6, 6, none⟩ (.int .i64 n17_6) w17 fun w18 =>
  ∃ nr6_0 : Int, ∃ nr6_1 : Int, ∃ nr6_2 : Int, ∃ (pr6_3 : Option Addr) (lr6_3 cr6_3 : Nat), ∃ (pr6_4 : Option Addr) (lr6_4 cr6_4 : Nat), ∃ nr6_5 : Int, ∃ nr6_6 : Int, (w18.cell? ⟨k6, 0, none⟩ = some (.int .i64 nr6_0) ∧ w18.cell? ⟨k6, 1, none⟩ = some (.int .i64 nr6_1) ∧ w18.cell? ⟨k6, 2, none⟩ = some (.int .i64 nr6_2) ∧ w18.cell? ⟨k6, 3, none⟩ = some (.slice pr6_3 lr6_3 cr6_3) ∧ w18.cell? ⟨k6, 4, none⟩ = some (.slice pr6_4 lr6_4 cr6_4) ∧ w18.cell? ⟨k6, 5, none⟩ = some (.int .i64 nr6_5) ∧ w18.cell? ⟨k6, 6, none⟩ = some (.int .i64 nr6_6)) ∧
  R (.tuple #[.agg #[.int .i64 nr6_0, .int .i64 nr6_1, .int .i64 nr6_2, .slice pr6_3 lr6_3 cr6_3, .slice pr6_4 lr6_4 cr6_4, .int .i64 nr6_5, .int .i64 nr6_6], .int .i64 1]) w18) ∧
  ((!b15) = false →
  ((decide (n1 < 0)) = true →
  ∃ n39_0 : Int, ∃ n39_1 : Int, ∃ n39_2 : Int, ∃ (p39_3 : Option Addr) (l39_3 c39_3 : Nat), ∃ (p39_4 : Option Addr) (l39_4 c39_4 : Nat), ∃ n39_5 : Int, ∃ n39_6 : Int, (w11.cell? ⟨k8, 0, none⟩ = some (.int .i64 n39_0) ∧ w11.cell? ⟨k8, 1, none⟩ = some (.int .i64 n39_1) ∧ w11.cell? ⟨k8, 2, none⟩ = some (.int .i64 n39_2) ∧ w11.cell? ⟨k8, 3, none⟩ = some (.slice p39_3 l39_3 c39_3) ∧ w11.cell? ⟨k8, 4, none⟩ = some (.slice p39_4 l39_4 c39_4) ∧ w11.cell? ⟨k8, 5, none⟩ = some (.int .i64 n39_5) ∧ w11.cell? ⟨k8, 6, none⟩ = some (.int .i64 n39_6)) ∧
  St ⟨k6, 0, none⟩ (.int .i64 n39_0) w11 fun w19 =>
  St ⟨k6, 1, none⟩ (.int .i64 n39_1) w19 fun w20 =>
  St ⟨k6, 2, none⟩ (.int .i64 n39_2) w20 fun w21 =>
  St ⟨k6, 3, none⟩ (.slice p39_3 l39_3 c39_3) w21 fun w22 =>
  St ⟨k6, 4, none⟩ (.slice p39_4 l39_4 c39_4) w22 fun w23 =>
  St ⟨k6, 5, none⟩ (.int .i64 n39_5) w23 fun w24 =>
  St ⟨k6, 6, none⟩ (.int .i64 n39_6) w24 fun w25 =>
  ∃ nr6_0_1 : Int, ∃ nr6_1_1 : Int, ∃ nr6_2_1 : Int, ∃ (pr6_3_1 : Option Addr) (lr6_3_1 cr6_3_1 : Nat), ∃ (pr6_4_1 : Option Addr) (lr6_4_1 cr6_4_1 : Nat), ∃ nr6_5_1 : Int, ∃ nr6_6_1 : Int, (w25.cell? ⟨k6, 0, none⟩ = some (.int .i64 nr6_0_1) ∧ w25.cell? ⟨k6, 1, none⟩ = some (.int .i64 nr6_1_1) ∧ w25.cell? ⟨k6, 2, none⟩ = some (.int .i64 nr6_2_1) ∧ w25.cell? ⟨k6, 3, none⟩ = some (.slice pr6_3_1 lr6_3_1 cr6_3_1) ∧ w25.cell? ⟨k6, 4, none⟩ = some (.slice pr6_4_1 lr6_4_1 cr6_4_1) ∧ w25.cell? ⟨k6, 5, none⟩ = some (.int .i64 nr6_5_1) ∧ w25.cell? ⟨k6, 6, none⟩ = some (.int .i64 nr6_6_1)) ∧
  R (.tuple #[.agg #[.int .i64 nr6_0_1, .int .i64 nr6_1_1, .int .i64 nr6_2_1, .slice pr6_3_1 lr6_3_1 cr6_3_1, .slice pr6_4_1 lr6_4_1 cr6_4_1, .int .i64 nr6_5_1, .int .i64 nr6_6_1], .int .i64 70]) w25) ∧
  ((decide (n1 < 0)) = false →
  ∃ n25 : Int, w11.cell? ⟨k3, 2, none⟩ = some (.int .i64 n25) ∧
  ((decide (n1 ≥ n25)) = true →
  ∃ n39_0_1 : Int, ∃ n39_1_1 : Int, ∃ n39_2_1 : Int, ∃ (p39_3_1 : Option Addr) (l39_3_1 c39_3_1 : Nat), ∃ (p39_4_1 : Option Addr) (l39_4_1 c39_4_1 : Nat), ∃ n39_5_1 : Int, ∃ n39_6_1 : Int, (w11.cell? ⟨k8, 0, none⟩ = some (.int .i64 n39_0_1) ∧ w11.cell? ⟨k8, 1, none⟩ = some (.int .i64 n39_1_1) ∧ w11.cell? ⟨k8, 2, none⟩ = some (.int .i64 n39_2_1) ∧ w11.cell? ⟨k8, 3, none⟩ = some (.slice p39_3_1 l39_3_1 c39_3_1) ∧ w11.cell? ⟨k8, 4, none⟩ = some (.slice p39_4_1 l39_4_1 c39_4_1) ∧ w11.cell? ⟨k8, 5, none⟩ = some (.int .i64 n39_5_1) ∧ w11.cell? ⟨k8, 6, none⟩ = some (.int .i64 n39_6_1)) ∧
  St ⟨k6, 0, none⟩ (.int .i64 n39_0_1) w11 fun w26 =>
  St ⟨k6, 1, none⟩ (.int .i64 n39_1_1) w26 fun w27 =>
  St ⟨k6, 2, none⟩ (.int .i64 n39_2_1) w27 fun w28 =>
  St ⟨k6, 3, none⟩ (.slice p39_3_1 l39_3_1 c39_3_1) w28 fun w29 =>
  St ⟨k6, 4, none⟩ (.slice p39_4_1 l39_4_1 c39_4_1) w29 fun w30 =>
  St ⟨k6, 5, none⟩ (.int .i64 n39_5_1) w30 fun w31 =>
  St ⟨k6, 6, none⟩ (.int .i64 n39_6_1) w31 fun w32 =>
  ∃ nr6_0_2 : Int, ∃ nr6_1_2 : Int, ∃ nr6_2_2 : Int, ∃ (pr6_3_2 : Option Addr) (lr6_3_2 cr6_3_2 : Nat), ∃ (pr6_4_2 : Option Addr) (lr6_4_2 cr6_4_2 : Nat), ∃ nr6_5_2 : Int, ∃ nr6_6_2 : Int, (w32.cell? ⟨k6, 0, none⟩ = some (.int .i64 nr6_0_2) ∧ w32.cell? ⟨k6, 1, none⟩ = some (.int .i64 nr6_1_2) ∧ w32.cell? ⟨k6, 2, none⟩ = some (.int .i64 nr6_2_2) ∧ w32.cell? ⟨k6, 3, none⟩ = some (.slice pr6_3_2 lr6_3_2 cr6_3_2) ∧ w32.cell? ⟨k6, 4, none⟩ = some (.slice pr6_4_2 lr6_4_2 cr6_4_2) ∧ w32.cell? ⟨k6, 5, none⟩ = some (.int .i64 nr6_5_2) ∧ w32.cell? ⟨k6, 6, none⟩ = some (.int .i64 nr6_6_2)) ∧
  R (.tuple #[.agg #[.int .i64 nr6_0_2, .int .i64 nr6_1_2, .int .i64 nr6_2_2, .slice pr6_3_2 lr6_3_2 cr6_3_2, .slice pr6_4_2 lr6_4_2 cr6_4_2, .int .i64 nr6_5_2, .int .i64 nr6_6_2], .int .i64 70]) w32) ∧
  ((decide (n1 ≥ n25)) = false →
  ((decide (n2 < 0)) = true →
  ∃ n39_0_2 : Int, ∃ n39_1_2 : Int, ∃ n39_2_2 : Int, ∃ (p39_3_2 : Option Addr) (l39_3_2 c39_3_2 : Nat), ∃ (p39_4_2 : Option Addr) (l39_4_2 c39_4_2 : Nat), ∃ n39_5_2 : Int, ∃ n39_6_2 : Int, (w11.cell? ⟨k8, 0, none⟩ = some (.int .i64 n39_0_2) ∧ w11.cell? ⟨k8, 1, none⟩ = some (.int .i64 n39_1_2) ∧ w11.cell? ⟨k8, 2, none⟩ = some (.int .i64 n39_2_2) ∧ w11.cell? ⟨k8, 3, none⟩ = some (.slice p39_3_2 l39_3_2 c39_3_2) ∧ w11.cell? ⟨k8, 4, none⟩ = some (.slice p39_4_2 l39_4_2 c39_4_2) ∧ w11.cell? ⟨k8, 5, none⟩ = some (.int .i64 n39_5_2) ∧ w11.cell? ⟨k8, 6, none⟩ = some (.int .i64 n39_6_2)) ∧
  St ⟨k6, 0, none⟩ (.int .i64 n39_0_2) w11 fun w33 =>
  St ⟨k6, 1, none⟩ (.int .i64 n39_1_2) w33 fun w34 =>
  St ⟨k6, 2, none⟩ (.int .i64 n39_2_2) w34 fun w35 =>
  St ⟨k6, 3, none⟩ (.slice p39_3_2 l39_3_2 c39_3_2) w35 fun w36 =>
  St ⟨k6, 4, none⟩ (.slice p39_4_2 l39_4_2 c39_4_2) w36 fun w37 =>
  St ⟨k6, 5, none⟩ (.int .i64 n39_5_2) w37 fun w38 =>
  St ⟨k6, 6, none⟩ (.int .i64 n39_6_2) w38 fun w39 =>
  ∃ nr6_0_3 : Int, ∃ nr6_1_3 : Int, ∃ nr6_2_3 : Int, ∃ (pr6_3_3 : Option Addr) (lr6_3_3 cr6_3_3 : Nat), ∃ (pr6_4_3 : Option Addr) (lr6_4_3 cr6_4_3 : Nat), ∃ nr6_5_3 : Int, ∃ nr6_6_3 : Int, (w39.cell? ⟨k6, 0, none⟩ = some (.int .i64 nr6_0_3) ∧ w39.cell? ⟨k6, 1, none⟩ = some (.int .i64 nr6_1_3) ∧ w39.cell? ⟨k6, 2, none⟩ = some (.int .i64 nr6_2_3) ∧ w39.cell? ⟨k6, 3, none⟩ = some (.slice pr6_3_3 lr6_3_3 cr6_3_3) ∧ w39.cell? ⟨k6, 4, none⟩ = some (.slice pr6_4_3 lr6_4_3 cr6_4_3) ∧ w39.cell? ⟨k6, 5, none⟩ = some (.int .i64 nr6_5_3) ∧ w39.cell? ⟨k6, 6, none⟩ = some (.int .i64 nr6_6_3)) ∧
  R (.tuple #[.agg #[.int .i64 nr6_0_3, .int .i64 nr6_1_3, .int .i64 nr6_2_3, .slice pr6_3_3 lr6_3_3 cr6_3_3, .slice pr6_4_3 lr6_4_3 cr6_4_3, .int .i64 nr6_5_3, .int .i64 nr6_6_3], .int .i64 70]) w39) ∧
  ((decide (n2 < 0)) = false →
  ∃ n36 : Int, w11.cell? ⟨k3, 1, none⟩ = some (.int .i64 n36) ∧
  ((decide (n2 ≥ n36)) = true →
  ∃ n39_0_3 : Int, ∃ n39_1_3 : Int, ∃ n39_2_3 : Int, ∃ (p39_3_3 : Option Addr) (l39_3_3 c39_3_3 : Nat), ∃ (p39_4_3 : Option Addr) (l39_4_3 c39_4_3 : Nat), ∃ n39_5_3 : Int, ∃ n39_6_3 : Int, (w11.cell? ⟨k8, 0, none⟩ = some (.int .i64 n39_0_3) ∧ w11.cell? ⟨k8, 1, none⟩ = some (.int .i64 n39_1_3) ∧ w11.cell? ⟨k8, 2, none⟩ = some (.int .i64 n39_2_3) ∧ w11.cell? ⟨k8, 3, none⟩ = some (.slice p39_3_3 l39_3_3 c39_3_3) ∧ w11.cell? ⟨k8, 4, none⟩ = some (.slice p39_4_3 l39_4_3 c39_4_3) ∧ w11.cell? ⟨k8, 5, none⟩ = some (.int .i64 n39_5_3) ∧ w11.cell? ⟨k8, 6, none⟩ = some (.int .i64 n39_6_3)) ∧
  St ⟨k6, 0, none⟩ (.int .i64 n39_0_3) w11 fun w40 =>
  St ⟨k6, 1, none⟩ (.int .i64 n39_1_3) w40 fun w41 =>
  St ⟨k6, 2, none⟩ (.int .i64 n39_2_3) w41 fun w42 =>
  St ⟨k6, 3, none⟩ (.slice p39_3_3 l39_3_3 c39_3_3) w42 fun w43 =>
  St ⟨k6, 4, none⟩ (.slice p39_4_3 l39_4_3 c39_4_3) w43 fun w44 =>
  St ⟨k6, 5, none⟩ (.int .i64 n39_5_3) w44 fun w45 =>
  St ⟨k6, 6, none⟩ (.int .i64 n39_6_3) w45 fun w46 =>
  ∃ nr6_0_4 : Int, ∃ nr6_1_4 : Int, ∃ nr6_2_4 : Int, ∃ (pr6_3_4 : Option Addr) (lr6_3_4 cr6_3_4 : Nat), ∃ (pr6_4_4 : Option Addr) (lr6_4_4 cr6_4_4 : Nat), ∃ nr6_5_4 : Int, ∃ nr6_6_4 : Int, (w46.cell? ⟨k6, 0, none⟩ = some (.int .i64 nr6_0_4) ∧ w46.cell? ⟨k6, 1, none⟩ = some (.int .i64 nr6_1_4) ∧ w46.cell? ⟨k6, 2, none⟩ = some (.int .i64 nr6_2_4) ∧ w46.cell? ⟨k6, 3, none⟩ = some (.slice pr6_3_4 lr6_3_4 cr6_3_4) ∧ w46.cell? ⟨k6, 4, none⟩ = some (.slice pr6_4_4 lr6_4_4 cr6_4_4) ∧ w46.cell? ⟨k6, 5, none⟩ = some (.int .i64 nr6_5_4) ∧ w46.cell? ⟨k6, 6, none⟩ = some (.int .i64 nr6_6_4)) ∧
  R (.tuple #[.agg #[.int .i64 nr6_0_4, .int .i64 nr6_1_4, .int .i64 nr6_2_4, .slice pr6_3_4 lr6_3_4 cr6_3_4, .slice pr6_4_4 lr6_4_4 cr6_4_4, .int .i64 nr6_5_4, .int .i64 nr6_6_4], .int .i64 70]) w46) ∧
  ((decide (n2 ≥ n36)) = false →
  ∃ n40_0 : Int, ∃ n40_1 : Int, ∃ n40_2 : Int, ∃ (p40_3 : Option Addr) (l40_3 c40_3 : Nat), ∃ (p40_4 : Option Addr) (l40_4 c40_4 : Nat), ∃ n40_5 : Int, ∃ n40_6 : Int, (w11.cell? ⟨k8, 0, none⟩ = some (.int .i64 n40_0) ∧ w11.cell? ⟨k8, 1, none⟩ = some (.int .i64 n40_1) ∧ w11.cell? ⟨k8, 2, none⟩ = some (.int .i64 n40_2) ∧ w11.cell? ⟨k8, 3, none⟩ = some (.slice p40_3 l40_3 c40_3) ∧ w11.cell? ⟨k8, 4, none⟩ = some (.slice p40_4 l40_4 c40_4) ∧ w11.cell? ⟨k8, 5, none⟩ = some (.int .i64 n40_5) ∧ w11.cell? ⟨k8, 6, none⟩ = some (.int .i64 n40_6)) ∧
  St ⟨k6, 0, none⟩ (.int .i64 n40_0) w11 fun w47 =>
  St ⟨k6, 1, none⟩ (.int .i64 n40_1) w47 fun w48 =>
  St ⟨k6, 2, none⟩ (.int .i64 n40_2) w48 fun w49 =>
  St ⟨k6, 3, none⟩ (.slice p40_3 l40_3 c40_3) w49 fun w50 =>
  St ⟨k6, 4, none⟩ (.slice p40_4 l40_4 c40_4) w50 fun w51 =>
  St ⟨k6, 5, none⟩ (.int .i64 n40_5) w51 fun w52 =>
  St ⟨k6, 6, none⟩ (.int .i64 n40_6) w52 fun w53 =>
  ∃ nr6_0_5 : Int, ∃ nr6_1_5 : Int, ∃ nr6_2_5 : Int, ∃ (pr6_3_5 : Option Addr) (lr6_3_5 cr6_3_5 : Nat), ∃ (pr6_4_5 : Option Addr) (lr6_4_5 cr6_4_5 : Nat), ∃ nr6_5_5 : Int, ∃ nr6_6_5 : Int, (w53.cell? ⟨k6, 0, none⟩ = some (.int .i64 nr6_0_5) ∧ w53.cell? ⟨k6, 1, none⟩ = some (.int .i64 nr6_1_5) ∧ w53.cell? ⟨k6, 2, none⟩ = some (.int .i64 nr6_2_5) ∧ w53.cell? ⟨k6, 3, none⟩ = some (.slice pr6_3_5 lr6_3_5 cr6_3_5) ∧ w53.cell? ⟨k6, 4, none⟩ = some (.slice pr6_4_5 lr6_4_5 cr6_4_5) ∧ w53.cell? ⟨k6, 5, none⟩ = some (.int .i64 nr6_5_5) ∧ w53.cell? ⟨k6, 6, none⟩ = some (.int .i64 nr6_6_5)) ∧
  R (.tuple #[.agg #[.int .i64 nr6_0_5, .int .i64 nr6_1_5, .int .i64 nr6_2_5, .slice pr6_3_5 lr6_3_5 cr6_3_5, .slice pr6_4_5 lr6_4_5 cr6_4_5, .int .i64 nr6_5_5, .int .i64 nr6_6_5], .int .i64 0]) w53)))))
theorem row_Set_at_eq (n0_0 : Int) (n0_1 : Int) (n0_2 : Int) (p0_3 : Option Addr) (l0_3 c0_3 : Nat) (p0_4 : Option Addr) (l0_4 c0_4 : Nat) (n1 : Int) (n2 : Int) (w : World) (R : Value → World → Prop) : row_Set_at n0_0 n0_1 n0_2 p0_3 l0_3 c0_3 p0_4 l0_4 c0_4 n1 n2 w R = fnP Tryz.prog Tryz.f38 .o [.agg #[.int .i64 n0_0, .int .i64 n0_1, .int .i64 n0_2, .slice p0_3 l0_3 c0_3, .slice p0_4 l0_4 c0_4], .int .i64 n1, .int .i64 n2] w R := by kernel_rfl
theorem row_Set_at_calls {n0_0 : Int} {n0_1 : Int} {n0_2 : Int} {p0_3 : Option Addr} {l0_3 c0_3 : Nat} {p0_4 : Option Addr} {l0_4 c0_4 : Nat} {n1 : Int} {n2 : Int} {w : World} {R : Value → World → Prop} (h : row_Set_at n0_0 n0_1 n0_2 p0_3 l0_3 c0_3 p0_4 l0_4 c0_4 n1 n2 w R) : Calls Tryz.prog 38 #[.agg #[.int .i64 n0_0, .int .i64 n0_1, .int .i64 n0_2, .slice p0_3 l0_3 c0_3, .slice p0_4 l0_4 c0_4], .int .i64 n1, .int .i64 n2] w fun e w1 => ∃ v, e = .returned v ∧ R v w1 := fnP_calls callable Tryz.func38 (row_Set_at_eq n0_0 n0_1 n0_2 p0_3 l0_3 c0_3 p0_4 l0_4 c0_4 n1 n2 w R ▸ h)

/-- (revetment/row.Set).there -/
def row_Set_there (n0_0 : Int) (n0_1 : Int) (n0_2 : Int) (p0_3 : Option Addr) (l0_3 c0_3 : Nat) (p0_4 : Option Addr) (l0_4 c0_4 : Nat) (n1 : Int) (w : World) (R : Value → World → Prop) : Prop :=
  Alloc #[.int .i64 n0_0, .int .i64 n0_1, .int .i64 n0_2, .slice p0_3 l0_3 c0_3, .slice p0_4 l0_4 c0_4] 30 w fun k2 w1 =>
  ∃ (p7 : Option Addr) (l7 c7 : Nat), w1.cell? ⟨k2, 3, none⟩ = some (.slice p7 l7 c7) ∧
  ∃ a9 : Addr, p7 = some a9 ∧ (0 : Int) ≤ n1 ∧ n1 < (l7 : Int) ∧
  ∃ p10 : Option Addr, w1.cell? (Addr.add a9 (n1.toNat * 1)) = some (.pointer p10) ∧
  ((!(Option.isNone p10)) = true →
  Calls Tryz.prog 72 #[.pointer p10] w1 fun e w2 => ∃ b15 : Bool, e = .returned (.bool b15) ∧
  ((!b15) = true →
  R (.pointer p10) w2) ∧
  ((!b15) = false →
  R (.pointer none) w2)) ∧
  ((!(Option.isNone p10)) = false →
  R (.pointer none) w1)
theorem row_Set_there_eq (n0_0 : Int) (n0_1 : Int) (n0_2 : Int) (p0_3 : Option Addr) (l0_3 c0_3 : Nat) (p0_4 : Option Addr) (l0_4 c0_4 : Nat) (n1 : Int) (w : World) (R : Value → World → Prop) : row_Set_there n0_0 n0_1 n0_2 p0_3 l0_3 c0_3 p0_4 l0_4 c0_4 n1 w R = fnP Tryz.prog Tryz.f39 .o [.agg #[.int .i64 n0_0, .int .i64 n0_1, .int .i64 n0_2, .slice p0_3 l0_3 c0_3, .slice p0_4 l0_4 c0_4], .int .i64 n1] w R := by kernel_rfl
theorem row_Set_there_calls {n0_0 : Int} {n0_1 : Int} {n0_2 : Int} {p0_3 : Option Addr} {l0_3 c0_3 : Nat} {p0_4 : Option Addr} {l0_4 c0_4 : Nat} {n1 : Int} {w : World} {R : Value → World → Prop} (h : row_Set_there n0_0 n0_1 n0_2 p0_3 l0_3 c0_3 p0_4 l0_4 c0_4 n1 w R) : Calls Tryz.prog 39 #[.agg #[.int .i64 n0_0, .int .i64 n0_1, .int .i64 n0_2, .slice p0_3 l0_3 c0_3, .slice p0_4 l0_4 c0_4], .int .i64 n1] w fun e w1 => ∃ v, e = .returned v ∧ R v w1 := fnP_calls callable Tryz.func39 (row_Set_there_eq n0_0 n0_1 n0_2 p0_3 l0_3 c0_3 p0_4 l0_4 c0_4 n1 w R ▸ h)

/-- (revetment/row.place).column -/
def row_place_column (n0_0 : Int) (n0_1 : Int) (n0_2 : Int) (p0_3 : Option Addr) (l0_3 c0_3 : Nat) (p0_4 : Option Addr) (l0_4 c0_4 : Nat) (n0_5 : Int) (n0_6 : Int) (n1 : Int) (w : World) (R : Value → World → Prop) : Prop :=
  Alloc #[.int .i64 n0_0, .int .i64 n0_1, .int .i64 n0_2, .slice p0_3 l0_3 c0_3, .slice p0_4 l0_4 c0_4, .int .i64 n0_5, .int .i64 n0_6] 74 w fun k2 w1 =>
  ∃ n11 : Int, w1.cell? ⟨k2, 0, none⟩ = some (.int .i64 n11) ∧
  ((decide (n1 < (IntKind.i64.wrap ((IntKind.i64.wrap (n11 - 1)) - 1)))) = true →
  ∃ n19_0 : Int, ∃ n19_1 : Int, ∃ n19_2 : Int, (w1.cell? ⟨k2, 0, none⟩ = some (.int .i64 n19_0) ∧ w1.cell? ⟨k2, 1, none⟩ = some (.int .i64 n19_1) ∧ w1.cell? ⟨k2, 2, none⟩ = some (.int .i64 n19_2)) ∧
  ∃ n21 : Int, w1.cell? ⟨k2, 5, none⟩ = some (.int .i64 n21) ∧
  Calls Tryz.prog 73 #[.agg #[.int .i64 n19_0, .int .i64 n19_1, .int .i64 n19_2], .int .i64 n21, .int .i64 n1] w1 fun e w2 => ∃ n23 : Int, e = .returned (.int .i64 n23) ∧
  R (.int .i64 n23) w2) ∧
  ((decide (n1 < (IntKind.i64.wrap ((IntKind.i64.wrap (n11 - 1)) - 1)))) = false →
  ∃ n27_0 : Int, ∃ n27_1 : Int, ∃ n27_2 : Int, (w1.cell? ⟨k2, 0, none⟩ = some (.int .i64 n27_0) ∧ w1.cell? ⟨k2, 1, none⟩ = some (.int .i64 n27_1) ∧ w1.cell? ⟨k2, 2, none⟩ = some (.int .i64 n27_2)) ∧
  ∃ n29 : Int, w1.cell? ⟨k2, 5, none⟩ = some (.int .i64 n29) ∧
  Calls Tryz.prog 74 #[.agg #[.int .i64 n27_0, .int .i64 n27_1, .int .i64 n27_2], .int .i64 n29] w1 fun e_1 w3 => ∃ n30_0 : Int, ∃ n30_1 : Int, e_1 = .returned (.tuple #[.int .i64 n30_0, .int .i64 n30_1]) ∧
  ((decide (n1 < (IntKind.i64.wrap (n11 - 1)))) = true →
  R (.int .i64 n30_0) w3) ∧
  ((decide (n1 < (IntKind.i64.wrap (n11 - 1)))) = false →
  R (.int .i64 n30_1) w3))
theorem row_place_column_eq (n0_0 : Int) (n0_1 : Int) (n0_2 : Int) (p0_3 : Option Addr) (l0_3 c0_3 : Nat) (p0_4 : Option Addr) (l0_4 c0_4 : Nat) (n0_5 : Int) (n0_6 : Int) (n1 : Int) (w : World) (R : Value → World → Prop) : row_place_column n0_0 n0_1 n0_2 p0_3 l0_3 c0_3 p0_4 l0_4 c0_4 n0_5 n0_6 n1 w R = fnP Tryz.prog Tryz.f40 .o [.agg #[.int .i64 n0_0, .int .i64 n0_1, .int .i64 n0_2, .slice p0_3 l0_3 c0_3, .slice p0_4 l0_4 c0_4, .int .i64 n0_5, .int .i64 n0_6], .int .i64 n1] w R := by kernel_rfl
theorem row_place_column_calls {n0_0 : Int} {n0_1 : Int} {n0_2 : Int} {p0_3 : Option Addr} {l0_3 c0_3 : Nat} {p0_4 : Option Addr} {l0_4 c0_4 : Nat} {n0_5 : Int} {n0_6 : Int} {n1 : Int} {w : World} {R : Value → World → Prop} (h : row_place_column n0_0 n0_1 n0_2 p0_3 l0_3 c0_3 p0_4 l0_4 c0_4 n0_5 n0_6 n1 w R) : Calls Tryz.prog 40 #[.agg #[.int .i64 n0_0, .int .i64 n0_1, .int .i64 n0_2, .slice p0_3 l0_3 c0_3, .slice p0_4 l0_4 c0_4, .int .i64 n0_5, .int .i64 n0_6], .int .i64 n1] w fun e w1 => ∃ v, e = .returned v ∧ R v w1 := fnP_calls callable Tryz.func40 (row_place_column_eq n0_0 n0_1 n0_2 p0_3 l0_3 c0_3 p0_4 l0_4 c0_4 n0_5 n0_6 n1 w R ▸ h)

/-- revetment/layout.Sector -/
def layout_Sector (n0_0 : Int) (n0_1 : Int) (n0_2 : Int) (n1 : Int) (n2 : Int) (w : World) (R : Value → World → Prop) : Prop :=
  Alloc #[.int .i64 n0_0, .int .i64 n0_1, .int .i64 n0_2] 25 w fun k3 w1 =>
  ∃ n8_0 : Int, ∃ n8_1 : Int, ∃ n8_2 : Int, (w1.cell? ⟨k3, 0, none⟩ = some (.int .i64 n8_0) ∧ w1.cell? ⟨k3, 1, none⟩ = some (.int .i64 n8_1) ∧ w1.cell? ⟨k3, 2, none⟩ = some (.int .i64 n8_2)) ∧
  Alloc #[.int .i64 0, .int .i64 0, .int .i64 0] 119 w1 fun k7 w2 =>
  St ⟨k7, 0, none⟩ (.int .i64 n8_0) w2 fun w3 =>
  St ⟨k7, 1, none⟩ (.int .i64 n8_1) w3 fun w4 =>
  St ⟨k7, 2, none⟩ (.int .i64 n8_2) w4 fun w5 =>
  ∃ n11_0 : Int, ∃ n11_1 : Int, ∃ n11_2 : Int, (w5.cell? ⟨k7, 0, none⟩ = some (.int .i64 n11_0) ∧ w5.cell? ⟨k7, 1, none⟩ = some (.int .i64 n11_1) ∧ w5.cell? ⟨k7, 2, none⟩ = some (.int .i64 n11_2)) ∧
  ∃ b13 : Bool, ∃ w6, (do eqGuard .eql 25 (.tmp 11) (.tmp 12) (.agg #[.int .i64 n11_0, .int .i64 n11_1, .int .i64 n11_2]) (.agg #[.int .i64 0, .int .i64 0, .int .i64 0]); binOp .eql 25 (.agg #[.int .i64 n11_0, .int .i64 n11_1, .int .i64 n11_2]) (.agg #[.int .i64 0, .int .i64 0, .int .i64 0]) : Sem Value).run Tryz.prog w5 = .ok (.bool b13) w6 ∧
  (b13 = true →
  R (.int .i64 0) w6) ∧
  (b13 = false →
  ∃ n15_0 : Int, ∃ n15_1 : Int, ∃ n15_2 : Int, (w6.cell? ⟨k7, 0, none⟩ = some (.int .i64 n15_0) ∧ w6.cell? ⟨k7, 1, none⟩ = some (.int .i64 n15_1) ∧ w6.cell? ⟨k7, 2, none⟩ = some (.int .i64 n15_2)) ∧
  ∃ n20 : Int, w6.cell? ⟨k7, 1, none⟩ = some (.int .i64 n20) ∧
  Calls Tryz.prog 77 #[.agg #[.int .i64 n15_0, .int .i64 n15_1, .int .i64 n15_2], .int .i64 n1, .int .i64 n2, .int .i64 n20] w6 fun e w7 => ∃ b21 : Bool, e = .returned (.bool b21) ∧
  ((!b21) = true →
  R (.int .i64 0) w7) ∧
  ((!b21) = false →
  ∃ n26 : Int, w7.cell? ⟨k7, 1, none⟩ = some (.int .i64 n26) ∧
  R (.int .i64 (IntKind.i64.wrap ((IntKind.i64.wrap (4 + (IntKind.i64.wrap (n26 * n1)))) + n2))) w7))
theorem layout_Sector_eq (n0_0 : Int) (n0_1 : Int) (n0_2 : Int) (n1 : Int) (n2 : Int) (w : World) (R : Value → World → Prop) : layout_Sector n0_0 n0_1 n0_2 n1 n2 w R = fnP Tryz.prog Tryz.f42 .o [.agg #[.int .i64 n0_0, .int .i64 n0_1, .int .i64 n0_2], .int .i64 n1, .int .i64 n2] w R := by kernel_rfl
theorem layout_Sector_calls {n0_0 : Int} {n0_1 : Int} {n0_2 : Int} {n1 : Int} {n2 : Int} {w : World} {R : Value → World → Prop} (h : layout_Sector n0_0 n0_1 n0_2 n1 n2 w R) : Calls Tryz.prog 42 #[.agg #[.int .i64 n0_0, .int .i64 n0_1, .int .i64 n0_2], .int .i64 n1, .int .i64 n2] w fun e w1 => ∃ v, e = .returned v ∧ R v w1 := fnP_calls callable Tryz.func42 (layout_Sector_eq n0_0 n0_1 n0_2 n1 n2 w R ▸ h)

/-- (revetment/row.place).sector -/
def row_place_sector (n0_0 : Int) (n0_1 : Int) (n0_2 : Int) (p0_3 : Option Addr) (l0_3 c0_3 : Nat) (p0_4 : Option Addr) (l0_4 c0_4 : Nat) (n0_5 : Int) (n0_6 : Int) (n1 : Int) (w : World) (R : Value → World → Prop) : Prop :=
  Alloc #[.int .i64 n0_0, .int .i64 n0_1, .int .i64 n0_2, .slice p0_3 l0_3 c0_3, .slice p0_4 l0_4 c0_4, .int .i64 n0_5, .int .i64 n0_6] 74 w fun k2 w1 =>
  ∃ n7_0 : Int, ∃ n7_1 : Int, ∃ n7_2 : Int, ∃ (p7_3 : Option Addr) (l7_3 c7_3 : Nat), ∃ (p7_4 : Option Addr) (l7_4 c7_4 : Nat), ∃ n7_5 : Int, ∃ n7_6 : Int, (w1.cell? ⟨k2, 0, none⟩ = some (.int .i64 n7_0) ∧ w1.cell? ⟨k2, 1, none⟩ = some (.int .i64 n7_1) ∧ w1.cell? ⟨k2, 2, none⟩ = some (.int .i64 n7_2) ∧ w1.cell? ⟨k2, 3, none⟩ = some (.slice p7_3 l7_3 c7_3) ∧ w1.cell? ⟨k2, 4, none⟩ = some (.slice p7_4 l7_4 c7_4) ∧ w1.cell? ⟨k2, 5, none⟩ = some (.int .i64 n7_5) ∧ w1.cell? ⟨k2, 6, none⟩ = some (.int .i64 n7_6)) ∧
  Calls Tryz.prog 55 #[.agg #[.int .i64 n7_0, .int .i64 n7_1, .int .i64 n7_2, .slice p7_3 l7_3 c7_3, .slice p7_4 l7_4 c7_4, .int .i64 n7_5, .int .i64 n7_6], .int .i64 n1] w1 fun e w2 => ∃ p9 : Option Addr, e = .returned (.pointer p9) ∧
  ((Option.isNone p9) = true →
  R (.tuple #[.string (ByteArray.mk #[]), .int .i64 41]) w2) ∧
  ((Option.isNone p9) = false →
  ∃ n15_0 : Int, ∃ n15_1 : Int, ∃ n15_2 : Int, (w2.cell? ⟨k2, 0, none⟩ = some (.int .i64 n15_0) ∧ w2.cell? ⟨k2, 1, none⟩ = some (.int .i64 n15_1) ∧ w2.cell? ⟨k2, 2, none⟩ = some (.int .i64 n15_2)) ∧
  ∃ n17 : Int, w2.cell? ⟨k2, 5, none⟩ = some (.int .i64 n17) ∧
  ∃ n19 : Int, w2.cell? ⟨k2, 6, none⟩ = some (.int .i64 n19) ∧
  Calls Tryz.prog 42 #[.agg #[.int .i64 n15_0, .int .i64 n15_1, .int .i64 n15_2], .int .i64 n17, .int .i64 n19] w2 fun e_1 w3 => ∃ n20 : Int, e_1 = .returned (.int .i64 n20) ∧
  Calls Tryz.prog 79 #[.pointer p9, .int .i64 n20] w3 fun e_2 w4 => ∃ s21_0 : ByteArray, ∃ n21_1 : Int, e_2 = .returned (.tuple #[.string s21_0, .int .i64 n21_1]) ∧
  R (.tuple #[.string s21_0, .int .i64 n21_1]) w4)
theorem row_place_sector_eq (n0_0 : Int) (n0_1 : Int) (n0_2 : Int) (p0_3 : Option Addr) (l0_3 c0_3 : Nat) (p0_4 : Option Addr) (l0_4 c0_4 : Nat) (n0_5 : Int) (n0_6 : Int) (n1 : Int) (w : World) (R : Value → World → Prop) : row_place_sector n0_0 n0_1 n0_2 p0_3 l0_3 c0_3 p0_4 l0_4 c0_4 n0_5 n0_6 n1 w R = fnP Tryz.prog Tryz.f44 .o [.agg #[.int .i64 n0_0, .int .i64 n0_1, .int .i64 n0_2, .slice p0_3 l0_3 c0_3, .slice p0_4 l0_4 c0_4, .int .i64 n0_5, .int .i64 n0_6], .int .i64 n1] w R := by kernel_rfl
theorem row_place_sector_calls {n0_0 : Int} {n0_1 : Int} {n0_2 : Int} {p0_3 : Option Addr} {l0_3 c0_3 : Nat} {p0_4 : Option Addr} {l0_4 c0_4 : Nat} {n0_5 : Int} {n0_6 : Int} {n1 : Int} {w : World} {R : Value → World → Prop} (h : row_place_sector n0_0 n0_1 n0_2 p0_3 l0_3 c0_3 p0_4 l0_4 c0_4 n0_5 n0_6 n1 w R) : Calls Tryz.prog 44 #[.agg #[.int .i64 n0_0, .int .i64 n0_1, .int .i64 n0_2, .slice p0_3 l0_3 c0_3, .slice p0_4 l0_4 c0_4, .int .i64 n0_5, .int .i64 n0_6], .int .i64 n1] w fun e w1 => ∃ v, e = .returned v ∧ R v w1 := fnP_calls callable Tryz.func44 (row_place_sector_eq n0_0 n0_1 n0_2 p0_3 l0_3 c0_3 p0_4 l0_4 c0_4 n0_5 n0_6 n1 w R ▸ h)

/-- (revetment/row.place).sectors -/
def row_place_sectors (n0_0 : Int) (n0_1 : Int) (n0_2 : Int) (p0_3 : Option Addr) (l0_3 c0_3 : Nat) (p0_4 : Option Addr) (l0_4 c0_4 : Nat) (n0_5 : Int) (n0_6 : Int) (w : World) (R : Value → World → Prop) : Prop :=
  Alloc #[.int .i64 n0_0, .int .i64 n0_1, .int .i64 n0_2, .slice p0_3 l0_3 c0_3, .slice p0_4 l0_4 c0_4, .int .i64 n0_5, .int .i64 n0_6] 74 w fun k1 w1 =>
  R (.func (.func 80) #[] #[.pointer (some ⟨k1, 0, none⟩)]) w1
theorem row_place_sectors_eq (n0_0 : Int) (n0_1 : Int) (n0_2 : Int) (p0_3 : Option Addr) (l0_3 c0_3 : Nat) (p0_4 : Option Addr) (l0_4 c0_4 : Nat) (n0_5 : Int) (n0_6 : Int) (w : World) (R : Value → World → Prop) : row_place_sectors n0_0 n0_1 n0_2 p0_3 l0_3 c0_3 p0_4 l0_4 c0_4 n0_5 n0_6 w R = fnP Tryz.prog Tryz.f45 .o [.agg #[.int .i64 n0_0, .int .i64 n0_1, .int .i64 n0_2, .slice p0_3 l0_3 c0_3, .slice p0_4 l0_4 c0_4, .int .i64 n0_5, .int .i64 n0_6]] w R := by kernel_rfl
theorem row_place_sectors_calls {n0_0 : Int} {n0_1 : Int} {n0_2 : Int} {p0_3 : Option Addr} {l0_3 c0_3 : Nat} {p0_4 : Option Addr} {l0_4 c0_4 : Nat} {n0_5 : Int} {n0_6 : Int} {w : World} {R : Value → World → Prop} (h : row_place_sectors n0_0 n0_1 n0_2 p0_3 l0_3 c0_3 p0_4 l0_4 c0_4 n0_5 n0_6 w R) : Calls Tryz.prog 45 #[.agg #[.int .i64 n0_0, .int .i64 n0_1, .int .i64 n0_2, .slice p0_3 l0_3 c0_3, .slice p0_4 l0_4 c0_4, .int .i64 n0_5, .int .i64 n0_6]] w fun e w1 => ∃ v, e = .returned v ∧ R v w1 := fnP_calls callable Tryz.func45 (row_place_sectors_eq n0_0 n0_1 n0_2 p0_3 l0_3 c0_3 p0_4 l0_4 c0_4 n0_5 n0_6 w R ▸ h)

/-- revetment/refill.Fill -/
def refill_Fill (p0 : Option Addr) (l0 c0 : Nat) (p1 : Option Addr) (l1 c1 : Nat) (w : World) (R : Value → World → Prop) : Prop :=
  Calls Tryz.prog 81 #[.slice p0 l0 c0, .slice p1 l1 c1] w fun e w1 => ∃ n20 : Int, e = .returned (.int .i64 n20) ∧
  ((n20 != 0) = true →
  R (.tuple #[.slice none 0 0, .int .i64 n20]) w1) ∧
  ((n20 != 0) = false →
  Calls Tryz.prog 83 #[.slice p1 l1 c1] w1 fun e_1 w2 => ∃ v25 : Value, e_1 = .returned v25 ∧
  Calls Tryz.prog 82 #[v25] w2 fun e_2 w3 => ∃ (p26 : Option Addr) (l26 c26 : Nat), e_2 = .returned (.slice p26 l26 c26) ∧
  Calls Tryz.prog 84 #[.slice p0 l0 c0] w3 fun e_3 w4 => ∃ (p28 : Option Addr) (l28 c28 : Nat), e_3 = .returned (.slice p28 l28 c28) ∧
  Alloc #[.slice none 0 0, .int .i64 0] 129 w4 fun k8 w5 =>
  St ⟨k8, 0, none⟩ (.slice p28 l28 c28) w5 fun w6 =>
  St ⟨k8, 1, none⟩ (.int .i64 (IntKind.i64.wrap ((l0 : Int) - 2))) w6 fun w7 =>
  LoopP (fun I => I [.int .i64 0, .int .i64 0] w7) fun K vs w8 => ∃ n9 : Int, ∃ n35 : Int, vs = [.int .i64 n9, .int .i64 n35] ∧
  ((decide (n35 < (l0 : Int))) = true →
  ∃ a38 : Addr, p0 = some a38 ∧ (0 : Int) ≤ n35 ∧ n35 < (l0 : Int) ∧
  ∃ s39 : ByteArray, w8.cell? (Addr.add a38 (n35.toNat * 1)) = some (.string s39) ∧
  Calls Tryz.prog 85 #[.slice p26 l26 c26, .int .i64 n35] w8 fun e_4 w9 => ∃ b42 : Bool, e_4 = .returned (.bool b42) ∧
  ((!b42) = true →
  K [.int .i64 (s39.size : Int), .int .i64 (IntKind.i64.wrap (n35 + 1))] w9) ∧
  ((!b42) = false →
  K [.int .i64 n9, .int .i64 (IntKind.i64.wrap (n35 + 1))] w9)) ∧
  ((decide (n35 < (l0 : Int))) = false →
  LoopP (fun I_1 => I_1 [.int .i64 0] w8) fun K_1 vs_1 w10 => ∃ n49 : Int, vs_1 = [.int .i64 n49] ∧
  ((decide (n49 < (l26 : Int))) = true →
  ∃ a51 : Addr, p26 = some a51 ∧ (0 : Int) ≤ n49 ∧ n49 < (l26 : Int) ∧
  ∃ n52 : Int, w10.cell? (Addr.add a51 (n49.toNat * 1)) = some (.int .i64 n52) ∧
  ∃ D : World → Prop, D w10.drew ∧
  ∃ (p54 : Option Addr) (l54 c54 : Nat), (∀ w, D w → w.cell? ⟨k8, 0, none⟩ = some (.slice p54 l54 c54)) ∧
  Calls Tryz.prog 86 #[.string (ByteArray.mk #[0]), .int .i64 n9] w10.drew fun e_5 w11 => ∃ s57 : ByteArray, e_5 = .returned (.string s57) ∧
  D w11 ∧
  ∃ a58 : Addr, p54 = some a58 ∧ (0 : Int) ≤ n52 ∧ n52 < (l54 : Int) ∧
  St (Addr.add a58 (n52.toNat * 1)) (.string s57) w11 fun w12 =>
  K_1 [.int .i64 (IntKind.i64.wrap (n49 + 1))] w12) ∧
  ((decide (n49 < (l26 : Int))) = false →
  Alloc #[.int .i64 0, .int .i64 0] 132 w10 fun k14 w13 =>
  LoopP (fun I_2 => I_2 [.int .i64 0] w13) fun K_2 vs_2 w14 => ∃ n62 : Int, vs_2 = [.int .i64 n62] ∧
  ((decide (n62 < (l26 : Int))) = true →
  ∃ a65 : Addr, p26 = some a65 ∧ (0 : Int) ≤ n62 ∧ n62 < (l26 : Int) ∧
  ∃ n66 : Int, w14.cell? (Addr.add a65 (n62.toNat * 1)) = some (.int .i64 n66) ∧
  ∃ (p68_0 : Option Addr) (l68_0 c68_0 : Nat), ∃ n68_1 : Int, (w14.cell? ⟨k8, 0, none⟩ = some (.slice p68_0 l68_0 c68_0) ∧ w14.cell? ⟨k8, 1, none⟩ = some (.int .i64 n68_1)) ∧
  Calls Tryz.prog 87 #[.agg #[.slice p68_0 l68_0 c68_0, .int .i64 n68_1], .int .i64 n66] w14 fun e_6 w15 => ∃ n70 : Int, e_6 = .returned (.int .i64 n70) ∧
  (0 : Int) ≤ n62 ∧ n62 < (2 : Int) ∧
  St (Addr.add ⟨k14, 0, none⟩ (n62.toNat * 1)) (.int .i64 n70) w15 fun w16 =>
  K_2 [.int .i64 (IntKind.i64.wrap (n62 + 1))] w16) ∧
  ((decide (n62 < (l26 : Int))) = false →
  Join (fun vs_3 w17 => vs_3 = [] ∧
  ∃ (p136 : Option Addr) (l136 c136 : Nat), w17.cell? ⟨k8, 0, none⟩ = some (.slice p136 l136 c136) ∧
  R (.tuple #[.slice p136 l136 c136, .int .i64 0]) w17) fun J =>
  ∃ n75_0 : Int, ∃ n75_1 : Int, (w14.cell? ⟨k14, 0, none⟩ = some (.int .i64 n75_0) ∧ w14.cell? ⟨k14, 1, none⟩ = some (.int .i64 n75_1)) ∧
  ∃ b77 : Bool, ∃ w18, (do eqGuard .eql 132 (.tmp 75) (.tmp 76) (.agg #[.int .i64 n75_0, .int .i64 n75_1]) (.agg #[.int .i64 1, .int .i64 1]); binOp .eql 132 (.agg #[.int .i64 n75_0, .int .i64 n75_1]) (.agg #[.int .i64 1, .int .i64 1]) : Sem Value).run Tryz.prog w14 = .ok (.bool b77) w18 ∧
  (b77 = true →
  ∃ D_1 : World → Prop, D_1 w18.drew ∧
  ∃ (p102_0 : Option Addr) (l102_0 c102_0 : Nat), ∃ n102_1 : Int, (∀ w, D_1 w → w.cell? ⟨k8, 0, none⟩ = some (.slice p102_0 l102_0 c102_0) ∧ w.cell? ⟨k8, 1, none⟩ = some (.int .i64 n102_1)) ∧
  ∃ a104 : Addr, p26 = some a104 ∧ (0 : Int) ≤ 0 ∧ 0 < (l26 : Int) ∧
  ∃ n105 : Int, (∀ w, D_1 w → w.cell? a104 = some (.int .i64 n105)) ∧
  ∃ a107 : Addr, p26 = some a107 ∧ (0 : Int) ≤ 1 ∧ 1 < (l26 : Int) ∧
  ∃ n108 : Int, (∀ w, D_1 w → w.cell? (a107.add 1) = some (.int .i64 n108)) ∧
  Calls Tryz.prog 91 #[.agg #[.slice p102_0 l102_0 c102_0, .int .i64 n102_1], .int .i64 n105, .int .i64 n108] w18.drew fun e_7 w19 => e_7 = .returned (.tuple #[]) ∧
  J [] w19) ∧
  (b77 = false →
  ∃ n79_0 : Int, ∃ n79_1 : Int, (w18.cell? ⟨k14, 0, none⟩ = some (.int .i64 n79_0) ∧ w18.cell? ⟨k14, 1, none⟩ = some (.int .i64 n79_1)) ∧
  ∃ b81 : Bool, ∃ w20, (do eqGuard .eql 132 (.tmp 79) (.tmp 80) (.agg #[.int .i64 n79_0, .int .i64 n79_1]) (.agg #[.int .i64 1, .int .i64 2]); binOp .eql 132 (.agg #[.int .i64 n79_0, .int .i64 n79_1]) (.agg #[.int .i64 1, .int .i64 2]) : Sem Value).run Tryz.prog w18 = .ok (.bool b81) w20 ∧
  (b81 = true →
  ∃ D_2 : World → Prop, D_2 w20.drew ∧
  ∃ (p110_0 : Option Addr) (l110_0 c110_0 : Nat), ∃ n110_1 : Int, (∀ w, D_2 w → w.cell? ⟨k8, 0, none⟩ = some (.slice p110_0 l110_0 c110_0) ∧ w.cell? ⟨k8, 1, none⟩ = some (.int .i64 n110_1)) ∧
  ∃ a112 : Addr, p26 = some a112 ∧ (0 : Int) ≤ 0 ∧ 0 < (l26 : Int) ∧
  ∃ n113 : Int, (∀ w, D_2 w → w.cell? a112 = some (.int .i64 n113)) ∧
  Calls Tryz.prog 92 #[.agg #[.slice p110_0 l110_0 c110_0, .int .i64 n110_1], .int .i64 n113] w20.drew fun e_8 w21 => e_8 = .returned (.tuple #[]) ∧
  Calls Tryz.prog 88 #[.bool true, .bool false, .pointer (some ⟨k8, 0, none⟩)] w21 fun e_9 w22 => e_9 = .returned (.tuple #[]) ∧
  J [] w22) ∧
  (b81 = false →
  ∃ n83_0 : Int, ∃ n83_1 : Int, (w20.cell? ⟨k14, 0, none⟩ = some (.int .i64 n83_0) ∧ w20.cell? ⟨k14, 1, none⟩ = some (.int .i64 n83_1)) ∧
  ∃ b85 : Bool, ∃ w23, (do eqGuard .eql 132 (.tmp 83) (.tmp 84) (.agg #[.int .i64 n83_0, .int .i64 n83_1]) (.agg #[.int .i64 1, .int .i64 3]); binOp .eql 132 (.agg #[.int .i64 n83_0, .int .i64 n83_1]) (.agg #[.int .i64 1, .int .i64 3]) : Sem Value).run Tryz.prog w20 = .ok (.bool b85) w23 ∧
  (b85 = true →
  ∃ D_3 : World → Prop, D_3 w23.drew ∧
  ∃ (p117_0 : Option Addr) (l117_0 c117_0 : Nat), ∃ n117_1 : Int, (∀ w, D_3 w → w.cell? ⟨k8, 0, none⟩ = some (.slice p117_0 l117_0 c117_0) ∧ w.cell? ⟨k8, 1, none⟩ = some (.int .i64 n117_1)) ∧
  ∃ a119 : Addr, p26 = some a119 ∧ (0 : Int) ≤ 0 ∧ 0 < (l26 : Int) ∧
  ∃ n120 : Int, (∀ w, D_3 w → w.cell? a119 = some (.int .i64 n120)) ∧
  Calls Tryz.prog 93 #[.agg #[.slice p117_0 l117_0 c117_0, .int .i64 n117_1], .int .i64 n120] w23.drew fun e_10 w24 => e_10 = .returned (.tuple #[]) ∧
  Calls Tryz.prog 88 #[.bool false, .bool true, .pointer (some ⟨k8, 0, none⟩)] w24 fun e_11 w25 => e_11 = .returned (.tuple #[]) ∧
  J [] w25) ∧
  (b85 = false →
  ∃ n87_0 : Int, ∃ n87_1 : Int, (w23.cell? ⟨k14, 0, none⟩ = some (.int .i64 n87_0) ∧ w23.cell? ⟨k14, 1, none⟩ = some (.int .i64 n87_1)) ∧
  ∃ b89 : Bool, ∃ w26, (do eqGuard .eql 132 (.tmp 87) (.tmp 88) (.agg #[.int .i64 n87_0, .int .i64 n87_1]) (.agg #[.int .i64 1, .int .i64 0]); binOp .eql 132 (.agg #[.int .i64 n87_0, .int .i64 n87_1]) (.agg #[.int .i64 1, .int .i64 0]) : Sem Value).run Tryz.prog w23 = .ok (.bool b89) w26 ∧
  (b89 = true →
  ∃ D_4 : World → Prop, D_4 w26.drew ∧
  ∃ (p124_0 : Option Addr) (l124_0 c124_0 : Nat), ∃ n124_1 : Int, (∀ w, D_4 w → w.cell? ⟨k8, 0, none⟩ = some (.slice p124_0 l124_0 c124_0) ∧ w.cell? ⟨k8, 1, none⟩ = some (.int .i64 n124_1)) ∧
  ∃ a126 : Addr, p26 = some a126 ∧ (0 : Int) ≤ 0 ∧ 0 < (l26 : Int) ∧
  ∃ n127 : Int, (∀ w, D_4 w → w.cell? a126 = some (.int .i64 n127)) ∧
  Calls Tryz.prog 93 #[.agg #[.slice p124_0 l124_0 c124_0, .int .i64 n124_1], .int .i64 n127] w26.drew fun e_12 w27 => e_12 = .returned (.tuple #[]) ∧
  J [] w27) ∧
  (b89 = false →
  ∃ n91_0 : Int, ∃ n91_1 : Int, (w26.cell? ⟨k14, 0, none⟩ = some (.int .i64 n91_0) ∧ w26.cell? ⟨k14, 1, none⟩ = some (.int .i64 n91_1)) ∧
  ∃ b93 : Bool, ∃ w28, (do eqGuard .eql 132 (.tmp 91) (.tmp 92) (.agg #[.int .i64 n91_0, .int .i64 n91_1]) (.agg #[.int .i64 2, .int .i64 3]); binOp .eql 132 (.agg #[.int .i64 n91_0, .int .i64 n91_1]) (.agg #[.int .i64 2, .int .i64 3]) : Sem Value).run Tryz.prog w26 = .ok (.bool b93) w28 ∧
  (b93 = true →
  Calls Tryz.prog 88 #[.bool true, .bool false, .pointer (some ⟨k8, 0, none⟩)] w28 fun e_13 w29 => e_13 = .returned (.tuple #[]) ∧
  Calls Tryz.prog 88 #[.bool false, .bool true, .pointer (some ⟨k8, 0, none⟩)] w29 fun e_14 w30 => e_14 = .returned (.tuple #[]) ∧
  J [] w30) ∧
  (b93 = false →
  ∃ n95_0 : Int, ∃ n95_1 : Int, (w28.cell? ⟨k14, 0, none⟩ = some (.int .i64 n95_0) ∧ w28.cell? ⟨k14, 1, none⟩ = some (.int .i64 n95_1)) ∧
  ∃ b97 : Bool, ∃ w31, (do eqGuard .eql 132 (.tmp 95) (.tmp 96) (.agg #[.int .i64 n95_0, .int .i64 n95_1]) (.agg #[.int .i64 3, .int .i64 0]); binOp .eql 132 (.agg #[.int .i64 n95_0, .int .i64 n95_1]) (.agg #[.int .i64 3, .int .i64 0]) : Sem Value).run Tryz.prog w28 = .ok (.bool b97) w31 ∧
  (b97 = true →
  Calls Tryz.prog 88 #[.bool false, .bool true, .pointer (some ⟨k8, 0, none⟩)] w31 fun e_15 w32 => e_15 = .returned (.tuple #[]) ∧
  J [] w32) ∧
  (b97 = false →
  ∃ n99_0 : Int, ∃ n99_1 : Int, (w31.cell? ⟨k14, 0, none⟩ = some (.int .i64 n99_0) ∧ w31.cell? ⟨k14, 1, none⟩ = some (.int .i64 n99_1)) ∧
  ∃ b101 : Bool, ∃ w33, (do eqGuard .eql 132 (.tmp 99) (.tmp 100) (.agg #[.int .i64 n99_0, .int .i64 n99_1]) (.agg #[.int .i64 2, .int .i64 0]); binOp .eql 132 (.agg #[.int .i64 n99_0, .int .i64 n99_1]) (.agg #[.int .i64 2, .int .i64 0]) : Sem Value).run Tryz.prog w31 = .ok (.bool b101) w33 ∧
  (b101 = true →
  Calls Tryz.prog 88 #[.bool true, .bool false, .pointer (some ⟨k8, 0, none⟩)] w33 fun e_16 w34 => e_16 = .returned (.tuple #[]) ∧
  J [] w34) ∧
  (b101 = false →
  J [] w33)))))))))))
theorem refill_Fill_eq (p0 : Option Addr) (l0 c0 : Nat) (p1 : Option Addr) (l1 c1 : Nat) (w : World) (R : Value → World → Prop) : refill_Fill p0 l0 c0 p1 l1 c1 w R = fnP Tryz.prog Tryz.f46 (.s .o (.s .o (.s .o (.s .o (.s .o (.s (.s .o (.b (.l [(9, .one (.int .i64)), (35, .one (.int .i64))] .o))) (.s (.s .o (.b (.l [(49, .one (.int .i64))] .o))) (.s .o (.s (.s .o (.b (.l [(62, .one (.int .i64))] .o))) (.s .o (.j [] .o .o))))))))))) [.slice p0 l0 c0, .slice p1 l1 c1] w R := by kernel_rfl
theorem refill_Fill_calls {p0 : Option Addr} {l0 c0 : Nat} {p1 : Option Addr} {l1 c1 : Nat} {w : World} {R : Value → World → Prop} (h : refill_Fill p0 l0 c0 p1 l1 c1 w R) : Calls Tryz.prog 46 #[.slice p0 l0 c0, .slice p1 l1 c1] w fun e w1 => ∃ v, e = .returned v ∧ R v w1 := fnP_calls callable Tryz.func46 (refill_Fill_eq p0 l0 c0 p1 l1 c1 w R ▸ h)

/-- revetment/row.May$1 -/
def row_May_1 (p0 : Option Addr) (k1 : Addr) (w : World) (R : Value → World → Prop) : Prop :=
  ∃ D : World → Prop, D w.drew ∧
  ((!(Option.isNone p0)) = true →
  Calls Tryz.prog 51 #[.pointer p0] w.drew fun e w1 => ∃ n8 : Int, e = .returned (.int .i64 n8) ∧
  D w1 ∧
  ∃ n10_0 : Int, ∃ n10_1 : Int, ∃ n10_2 : Int, (∀ w, D w → w.cell? k1 = some (.int .i64 n10_0) ∧ w.cell? (k1.add 1) = some (.int .i64 n10_1) ∧ w.cell? (k1.add 2) = some (.int .i64 n10_2)) ∧
  Calls Tryz.prog 52 #[.agg #[.int .i64 n10_0, .int .i64 n10_1, .int .i64 n10_2]] w1 fun e_1 w2 => ∃ n11 : Int, e_1 = .returned (.int .i64 n11) ∧
  D w2 ∧
  R (.bool (decide (n8 < n11))) w2) ∧
  ((!(Option.isNone p0)) = false →
  R (.bool false) w.drew)
theorem row_May_1_eq (p0 : Option Addr) (k1 : Addr) (w : World) (R : Value → World → Prop) : row_May_1 p0 k1 w R = fnP Tryz.prog Tryz.f50 .o [.pointer p0, .pointer (some k1)] w R := by kernel_rfl
theorem row_May_1_calls {p0 : Option Addr} {k1 : Addr} {w : World} {R : Value → World → Prop} (h : row_May_1 p0 k1 w R) : Calls Tryz.prog 50 #[.pointer p0, .pointer (some k1)] w fun e w1 => ∃ v, e = .returned v ∧ R v w1 := fnP_calls callable Tryz.func50 (row_May_1_eq p0 k1 w R ▸ h)

/-- revetment/layout.Need -/
def layout_Need (n0_0 : Int) (n0_1 : Int) (n0_2 : Int) (w : World) (R : Value → World → Prop) : Prop :=
  Alloc #[.int .i64 n0_0, .int .i64 n0_1, .int .i64 n0_2] 25 w fun k1 w1 =>
  ∃ n4_0 : Int, ∃ n4_1 : Int, ∃ n4_2 : Int, (w1.cell? ⟨k1, 0, none⟩ = some (.int .i64 n4_0) ∧ w1.cell? ⟨k1, 1, none⟩ = some (.int .i64 n4_1) ∧ w1.cell? ⟨k1, 2, none⟩ = some (.int .i64 n4_2)) ∧
  Alloc #[.int .i64 0, .int .i64 0, .int .i64 0] 119 w1 fun k3 w2 =>
  St ⟨k3, 0, none⟩ (.int .i64 n4_0) w2 fun w3 =>
  St ⟨k3, 1, none⟩ (.int .i64 n4_1) w3 fun w4 =>
  St ⟨k3, 2, none⟩ (.int .i64 n4_2) w4 fun w5 =>
  ∃ n6_0 : Int, ∃ n6_1 : Int, ∃ n6_2 : Int, (w5.cell? ⟨k3, 0, none⟩ = some (.int .i64 n6_0) ∧ w5.cell? ⟨k3, 1, none⟩ = some (.int .i64 n6_1) ∧ w5.cell? ⟨k3, 2, none⟩ = some (.int .i64 n6_2)) ∧
  Calls Tryz.prog 96 #[.agg #[.int .i64 n6_0, .int .i64 n6_1, .int .i64 n6_2]] w5 fun e w6 => ∃ b7 : Bool, e = .returned (.bool b7) ∧
  (b7 = true →
  ∃ n10 : Int, w6.cell? ⟨k3, 2, none⟩ = some (.int .i64 n10) ∧
  ∃ n13 : Int, w6.cell? ⟨k3, 1, none⟩ = some (.int .i64 n13) ∧
  R (.int .i64 (IntKind.i64.wrap (4 + (IntKind.i64.wrap (n10 * n13))))) w6) ∧
  (b7 = false →
  R (.int .i64 0) w6)
theorem layout_Need_eq (n0_0 : Int) (n0_1 : Int) (n0_2 : Int) (w : World) (R : Value → World → Prop) : layout_Need n0_0 n0_1 n0_2 w R = fnP Tryz.prog Tryz.f52 .o [.agg #[.int .i64 n0_0, .int .i64 n0_1, .int .i64 n0_2]] w R := by kernel_rfl
theorem layout_Need_calls {n0_0 : Int} {n0_1 : Int} {n0_2 : Int} {w : World} {R : Value → World → Prop} (h : layout_Need n0_0 n0_1 n0_2 w R) : Calls Tryz.prog 52 #[.agg #[.int .i64 n0_0, .int .i64 n0_1, .int .i64 n0_2]] w fun e w1 => ∃ v, e = .returned v ∧ R v w1 := fnP_calls callable Tryz.func52 (layout_Need_eq n0_0 n0_1 n0_2 w R ▸ h)

/-- revetment/layout.Check -/
def layout_Check (n0_0 : Int) (n0_1 : Int) (n0_2 : Int) (w : World) (R : Value → World → Prop) : Prop :=
  Alloc #[.int .i64 n0_0, .int .i64 n0_1, .int .i64 n0_2] 25 w fun k1 w1 =>
  ∃ n6 : Int, w1.cell? ⟨k1, 0, none⟩ = some (.int .i64 n6) ∧
  ∃ n9 : Int, w1.cell? ⟨k1, 1, none⟩ = some (.int .i64 n9) ∧
  ∃ n12 : Int, w1.cell? ⟨k1, 2, none⟩ = some (.int .i64 n12) ∧
  LoopP (fun I => I [.int .i64 0] w1) fun K vs w2 => ∃ n15 : Int, vs = [.int .i64 n15] ∧
  ((decide (n15 < 3)) = true →
  ∃ n17_0 : Int, ∃ n17_1 : Int, ∃ n17_2 : Int, ∃ w3, (Instr.index 137 (.agg #[.int .i64 4, .int .i64 n6, .int .i64 10, .int .i64 1, .int .i64 n9, .int .i64 4, .int .i64 1, .int .i64 n12, .int .i64 256]) (.int .i64 n15)).run Tryz.prog w2 = .ok (.agg #[.int .i64 n17_0, .int .i64 n17_1, .int .i64 n17_2]) w3 ∧
  Alloc #[.int .i64 0, .int .i64 0, .int .i64 0] 136 w3 fun k4 w4 =>
  St ⟨k4, 0, none⟩ (.int .i64 n17_0) w4 fun w5 =>
  St ⟨k4, 1, none⟩ (.int .i64 n17_1) w5 fun w6 =>
  St ⟨k4, 2, none⟩ (.int .i64 n17_2) w6 fun w7 =>
  (0 : Int) ≤ 1 ∧ 1 < (3 : Int) ∧
  ∃ n19 : Int, w7.cell? ⟨k4, 1, none⟩ = some (.int .i64 n19) ∧
  (0 : Int) ≤ 0 ∧ 0 < (3 : Int) ∧
  ∃ n21 : Int, w7.cell? ⟨k4, 0, none⟩ = some (.int .i64 n21) ∧
  ((decide (n19 < n21)) = true →
  R (.int .i64 1) w7) ∧
  ((decide (n19 < n21)) = false →
  (0 : Int) ≤ 1 ∧ 1 < (3 : Int) ∧
  ∃ n25 : Int, w7.cell? ⟨k4, 1, none⟩ = some (.int .i64 n25) ∧
  (0 : Int) ≤ 2 ∧ 2 < (3 : Int) ∧
  ∃ n27 : Int, w7.cell? ⟨k4, 2, none⟩ = some (.int .i64 n27) ∧
  ((decide (n25 > n27)) = true →
  R (.int .i64 1) w7) ∧
  ((decide (n25 > n27)) = false →
  K [.int .i64 (IntKind.i64.wrap (n15 + 1))] w7))) ∧
  ((decide (n15 < 3)) = false →
  R (.int .i64 0) w2)
theorem layout_Check_eq (n0_0 : Int) (n0_1 : Int) (n0_2 : Int) (w : World) (R : Value → World → Prop) : layout_Check n0_0 n0_1 n0_2 w R = fnP Tryz.prog Tryz.f53 (.s .o (.s (.s .o (.b (.l [(15, .one (.int .i64))] .o))) .o)) [.agg #[.int .i64 n0_0, .int .i64 n0_1, .int .i64 n0_2]] w R := by kernel_rfl
theorem layout_Check_calls {n0_0 : Int} {n0_1 : Int} {n0_2 : Int} {w : World} {R : Value → World → Prop} (h : layout_Check n0_0 n0_1 n0_2 w R) : Calls Tryz.prog 53 #[.agg #[.int .i64 n0_0, .int .i64 n0_1, .int .i64 n0_2]] w fun e w1 => ∃ v, e = .returned v ∧ R v w1 := fnP_calls callable Tryz.func53 (layout_Check_eq n0_0 n0_1 n0_2 w R ▸ h)

/-- slices.ContainsFunc[[]*revetment/drive.Drive,*revetment/drive.Drive] -/
def slices_ContainsFunc_drive_Drive_drive_Drive (p0 : Option Addr) (l0 c0 : Nat) (v1 : Value) (w : World) (R : Value → World → Prop) : Prop :=
  Calls Tryz.prog 97 #[.slice p0 l0 c0, v1] w fun e w1 => ∃ n7 : Int, e = .returned (.int .i64 n7) ∧
  R (.bool (decide (n7 ≥ 0))) w1
theorem slices_ContainsFunc_drive_Drive_drive_Drive_eq (p0 : Option Addr) (l0 c0 : Nat) (v1 : Value) (w : World) (R : Value → World → Prop) : slices_ContainsFunc_drive_Drive_drive_Drive p0 l0 c0 v1 w R = fnP Tryz.prog Tryz.f54 .o [.slice p0 l0 c0, v1] w R := by kernel_rfl
theorem slices_ContainsFunc_drive_Drive_drive_Drive_calls {p0 : Option Addr} {l0 c0 : Nat} {v1 : Value} {w : World} {R : Value → World → Prop} (h : slices_ContainsFunc_drive_Drive_drive_Drive p0 l0 c0 v1 w R) : Calls Tryz.prog 54 #[.slice p0 l0 c0, v1] w fun e w1 => ∃ v, e = .returned v ∧ R v w1 := fnP_calls callable Tryz.func54 (slices_ContainsFunc_drive_Drive_drive_Drive_eq p0 l0 c0 v1 w R ▸ h)

/-- (revetment/row.place).built -/
def row_place_built (n0_0 : Int) (n0_1 : Int) (n0_2 : Int) (p0_3 : Option Addr) (l0_3 c0_3 : Nat) (p0_4 : Option Addr) (l0_4 c0_4 : Nat) (n0_5 : Int) (n0_6 : Int) (n1 : Int) (w : World) (R : Value → World → Prop) : Prop :=
  Alloc #[.int .i64 n0_0, .int .i64 n0_1, .int .i64 n0_2, .slice p0_3 l0_3 c0_3, .slice p0_4 l0_4 c0_4, .int .i64 n0_5, .int .i64 n0_6] 74 w fun k2 w1 =>
  ∃ n6_0 : Int, ∃ n6_1 : Int, ∃ n6_2 : Int, ∃ (p6_3 : Option Addr) (l6_3 c6_3 : Nat), ∃ (p6_4 : Option Addr) (l6_4 c6_4 : Nat), ∃ n6_5 : Int, ∃ n6_6 : Int, (w1.cell? ⟨k2, 0, none⟩ = some (.int .i64 n6_0) ∧ w1.cell? ⟨k2, 1, none⟩ = some (.int .i64 n6_1) ∧ w1.cell? ⟨k2, 2, none⟩ = some (.int .i64 n6_2) ∧ w1.cell? ⟨k2, 3, none⟩ = some (.slice p6_3 l6_3 c6_3) ∧ w1.cell? ⟨k2, 4, none⟩ = some (.slice p6_4 l6_4 c6_4) ∧ w1.cell? ⟨k2, 5, none⟩ = some (.int .i64 n6_5) ∧ w1.cell? ⟨k2, 6, none⟩ = some (.int .i64 n6_6)) ∧
  Calls Tryz.prog 40 #[.agg #[.int .i64 n6_0, .int .i64 n6_1, .int .i64 n6_2, .slice p6_3 l6_3 c6_3, .slice p6_4 l6_4 c6_4, .int .i64 n6_5, .int .i64 n6_6], .int .i64 n1] w1 fun e w2 => ∃ n8 : Int, e = .returned (.int .i64 n8) ∧
  ∃ D : World → Prop, D w2.drew ∧
  ∃ (p11 : Option Addr) (l11 c11 : Nat), (∀ w, D w → w.cell? ⟨k2, 4, none⟩ = some (.slice p11 l11 c11)) ∧
  ∃ a13 : Addr, p11 = some a13 ∧ (0 : Int) ≤ n8 ∧ n8 < (l11 : Int) ∧
  ∃ n14 : Int, (∀ w, D w → w.cell? (Addr.add a13 (n8.toNat * 1)) = some (.int .i64 n14)) ∧
  ∃ n16 : Int, (∀ w, D w → w.cell? ⟨k2, 5, none⟩ = some (.int .i64 n16)) ∧
  ((decide (n14 ≤ n16)) = true →
  R (.pointer none) w2.drew) ∧
  ((decide (n14 ≤ n16)) = false →
  ∃ n19_0 : Int, ∃ n19_1 : Int, ∃ n19_2 : Int, ∃ (p19_3 : Option Addr) (l19_3 c19_3 : Nat), ∃ (p19_4 : Option Addr) (l19_4 c19_4 : Nat), (w2.drew.cell? ⟨k2, 0, none⟩ = some (.int .i64 n19_0) ∧ w2.drew.cell? ⟨k2, 1, none⟩ = some (.int .i64 n19_1) ∧ w2.drew.cell? ⟨k2, 2, none⟩ = some (.int .i64 n19_2) ∧ w2.drew.cell? ⟨k2, 3, none⟩ = some (.slice p19_3 l19_3 c19_3) ∧ w2.drew.cell? ⟨k2, 4, none⟩ = some (.slice p19_4 l19_4 c19_4)) ∧
  Calls Tryz.prog 39 #[.agg #[.int .i64 n19_0, .int .i64 n19_1, .int .i64 n19_2, .slice p19_3 l19_3 c19_3, .slice p19_4 l19_4 c19_4], .int .i64 n8] w2.drew fun e_1 w3 => ∃ p21 : Option Addr, e_1 = .returned (.pointer p21) ∧
  R (.pointer p21) w3)
theorem row_place_built_eq (n0_0 : Int) (n0_1 : Int) (n0_2 : Int) (p0_3 : Option Addr) (l0_3 c0_3 : Nat) (p0_4 : Option Addr) (l0_4 c0_4 : Nat) (n0_5 : Int) (n0_6 : Int) (n1 : Int) (w : World) (R : Value → World → Prop) : row_place_built n0_0 n0_1 n0_2 p0_3 l0_3 c0_3 p0_4 l0_4 c0_4 n0_5 n0_6 n1 w R = fnP Tryz.prog Tryz.f55 .o [.agg #[.int .i64 n0_0, .int .i64 n0_1, .int .i64 n0_2, .slice p0_3 l0_3 c0_3, .slice p0_4 l0_4 c0_4, .int .i64 n0_5, .int .i64 n0_6], .int .i64 n1] w R := by kernel_rfl
theorem row_place_built_calls {n0_0 : Int} {n0_1 : Int} {n0_2 : Int} {p0_3 : Option Addr} {l0_3 c0_3 : Nat} {p0_4 : Option Addr} {l0_4 c0_4 : Nat} {n0_5 : Int} {n0_6 : Int} {n1 : Int} {w : World} {R : Value → World → Prop} (h : row_place_built n0_0 n0_1 n0_2 p0_3 l0_3 c0_3 p0_4 l0_4 c0_4 n0_5 n0_6 n1 w R) : Calls Tryz.prog 55 #[.agg #[.int .i64 n0_0, .int .i64 n0_1, .int .i64 n0_2, .slice p0_3 l0_3 c0_3, .slice p0_4 l0_4 c0_4, .int .i64 n0_5, .int .i64 n0_6], .int .i64 n1] w fun e w1 => ∃ v, e = .returned v ∧ R v w1 := fnP_calls callable Tryz.func55 (row_place_built_eq n0_0 n0_1 n0_2 p0_3 l0_3 c0_3 p0_4 l0_4 c0_4 n0_5 n0_6 n1 w R ▸ h)

/-- revetment/layout.Column -/
def layout_Column (n0_0 : Int) (n0_1 : Int) (n0_2 : Int) (n1 : Int) (n2 : Int) (w : World) (R : Value → World → Prop) : Prop :=
  Alloc #[.int .i64 n0_0, .int .i64 n0_1, .int .i64 n0_2] 25 w fun k3 w1 =>
  ∃ n8_0 : Int, ∃ n8_1 : Int, ∃ n8_2 : Int, (w1.cell? ⟨k3, 0, none⟩ = some (.int .i64 n8_0) ∧ w1.cell? ⟨k3, 1, none⟩ = some (.int .i64 n8_1) ∧ w1.cell? ⟨k3, 2, none⟩ = some (.int .i64 n8_2)) ∧
  Alloc #[.int .i64 0, .int .i64 0, .int .i64 0] 119 w1 fun k7 w2 =>
  St ⟨k7, 0, none⟩ (.int .i64 n8_0) w2 fun w3 =>
  St ⟨k7, 1, none⟩ (.int .i64 n8_1) w3 fun w4 =>
  St ⟨k7, 2, none⟩ (.int .i64 n8_2) w4 fun w5 =>
  ∃ D : World → Prop, D w5.drew ∧
  ∃ n10_0 : Int, ∃ n10_1 : Int, ∃ n10_2 : Int, (∀ w, D w → w.cell? ⟨k7, 0, none⟩ = some (.int .i64 n10_0) ∧ w.cell? ⟨k7, 1, none⟩ = some (.int .i64 n10_1) ∧ w.cell? ⟨k7, 2, none⟩ = some (.int .i64 n10_2)) ∧
  ∃ n13_0 : Int, ∃ n13_1 : Int, ∃ n13_2 : Int, (∀ w, D w → w.cell? ⟨k7, 0, none⟩ = some (.int .i64 n13_0) ∧ w.cell? ⟨k7, 1, none⟩ = some (.int .i64 n13_1) ∧ w.cell? ⟨k7, 2, none⟩ = some (.int .i64 n13_2)) ∧
  Calls Tryz.prog 108 #[.agg #[.int .i64 n13_0, .int .i64 n13_1, .int .i64 n13_2]] w5.drew fun e w6 => ∃ n14 : Int, e = .returned (.int .i64 n14) ∧
  D w6 ∧
  Calls Tryz.prog 77 #[.agg #[.int .i64 n10_0, .int .i64 n10_1, .int .i64 n10_2], .int .i64 n1, .int .i64 n2, .int .i64 n14] w6 fun e_1 w7 => ∃ b15 : Bool, e_1 = .returned (.bool b15) ∧
  D w7 ∧
  ((!b15) = true →
  R (.int .i64 0) w7) ∧
  ((!b15) = false →
  ∃ D_1 : World → Prop, D_1 w7.drew ∧
  ∃ n17_0 : Int, ∃ n17_1 : Int, ∃ n17_2 : Int, (∀ w, D_1 w → w.cell? ⟨k7, 0, none⟩ = some (.int .i64 n17_0) ∧ w.cell? ⟨k7, 1, none⟩ = some (.int .i64 n17_1) ∧ w.cell? ⟨k7, 2, none⟩ = some (.int .i64 n17_2)) ∧
  Calls Tryz.prog 109 #[.agg #[.int .i64 n17_0, .int .i64 n17_1, .int .i64 n17_2], .int .i64 n1] w7.drew fun e_2 w8 => ∃ n19 : Int, e_2 = .returned (.int .i64 n19) ∧
  D_1 w8 ∧
  ∃ n25 : Int, (∀ w, D_1 w → w.cell? ⟨k7, 0, none⟩ = some (.int .i64 n25)) ∧
  n25 ≠ 0 ∧
  R (.int .i64 (Int.tmod (IntKind.i64.wrap ((IntKind.i64.wrap (n19 + 1)) + n2)) n25)) w8)
theorem layout_Column_eq (n0_0 : Int) (n0_1 : Int) (n0_2 : Int) (n1 : Int) (n2 : Int) (w : World) (R : Value → World → Prop) : layout_Column n0_0 n0_1 n0_2 n1 n2 w R = fnP Tryz.prog Tryz.f73 .o [.agg #[.int .i64 n0_0, .int .i64 n0_1, .int .i64 n0_2], .int .i64 n1, .int .i64 n2] w R := by kernel_rfl
theorem layout_Column_calls {n0_0 : Int} {n0_1 : Int} {n0_2 : Int} {n1 : Int} {n2 : Int} {w : World} {R : Value → World → Prop} (h : layout_Column n0_0 n0_1 n0_2 n1 n2 w R) : Calls Tryz.prog 73 #[.agg #[.int .i64 n0_0, .int .i64 n0_1, .int .i64 n0_2], .int .i64 n1, .int .i64 n2] w fun e w1 => ∃ v, e = .returned v ∧ R v w1 := fnP_calls callable Tryz.func73 (layout_Column_eq n0_0 n0_1 n0_2 n1 n2 w R ▸ h)

/-- revetment/layout.Parity -/
def layout_Parity (n0_0 : Int) (n0_1 : Int) (n0_2 : Int) (n1 : Int) (w : World) (R : Value → World → Prop) : Prop :=
  Alloc #[.int .i64 n0_0, .int .i64 n0_1, .int .i64 n0_2] 25 w fun k2 w1 =>
  ∃ n8_0 : Int, ∃ n8_1 : Int, ∃ n8_2 : Int, (w1.cell? ⟨k2, 0, none⟩ = some (.int .i64 n8_0) ∧ w1.cell? ⟨k2, 1, none⟩ = some (.int .i64 n8_1) ∧ w1.cell? ⟨k2, 2, none⟩ = some (.int .i64 n8_2)) ∧
  Alloc #[.int .i64 0, .int .i64 0, .int .i64 0] 119 w1 fun k6 w2 =>
  St ⟨k6, 0, none⟩ (.int .i64 n8_0) w2 fun w3 =>
  St ⟨k6, 1, none⟩ (.int .i64 n8_1) w3 fun w4 =>
  St ⟨k6, 2, none⟩ (.int .i64 n8_2) w4 fun w5 =>
  ∃ n10_0 : Int, ∃ n10_1 : Int, ∃ n10_2 : Int, (w5.cell? ⟨k6, 0, none⟩ = some (.int .i64 n10_0) ∧ w5.cell? ⟨k6, 1, none⟩ = some (.int .i64 n10_1) ∧ w5.cell? ⟨k6, 2, none⟩ = some (.int .i64 n10_2)) ∧
  Calls Tryz.prog 77 #[.agg #[.int .i64 n10_0, .int .i64 n10_1, .int .i64 n10_2], .int .i64 n1, .int .i64 0, .int .i64 1] w5 fun e w6 => ∃ b12 : Bool, e = .returned (.bool b12) ∧
  ((!b12) = true →
  R (.tuple #[.int .i64 0, .int .i64 0]) w6) ∧
  ((!b12) = false →
  ∃ n14_0 : Int, ∃ n14_1 : Int, ∃ n14_2 : Int, (w6.cell? ⟨k6, 0, none⟩ = some (.int .i64 n14_0) ∧ w6.cell? ⟨k6, 1, none⟩ = some (.int .i64 n14_1) ∧ w6.cell? ⟨k6, 2, none⟩ = some (.int .i64 n14_2)) ∧
  Calls Tryz.prog 109 #[.agg #[.int .i64 n14_0, .int .i64 n14_1, .int .i64 n14_2], .int .i64 n1] w6 fun e_1 w7 => ∃ n16 : Int, e_1 = .returned (.int .i64 n16) ∧
  ∃ n20 : Int, w7.cell? ⟨k6, 0, none⟩ = some (.int .i64 n20) ∧
  ∃ n25 : Int, w7.cell? ⟨k6, 0, none⟩ = some (.int .i64 n25) ∧
  n25 ≠ 0 ∧
  R (.tuple #[.int .i64 (Int.tmod (IntKind.i64.wrap ((IntKind.i64.wrap (n16 + n20)) - 1)) n25), .int .i64 n16]) w7)
theorem layout_Parity_eq (n0_0 : Int) (n0_1 : Int) (n0_2 : Int) (n1 : Int) (w : World) (R : Value → World → Prop) : layout_Parity n0_0 n0_1 n0_2 n1 w R = fnP Tryz.prog Tryz.f74 .o [.agg #[.int .i64 n0_0, .int .i64 n0_1, .int .i64 n0_2], .int .i64 n1] w R := by kernel_rfl
theorem layout_Parity_calls {n0_0 : Int} {n0_1 : Int} {n0_2 : Int} {n1 : Int} {w : World} {R : Value → World → Prop} (h : layout_Parity n0_0 n0_1 n0_2 n1 w R) : Calls Tryz.prog 74 #[.agg #[.int .i64 n0_0, .int .i64 n0_1, .int .i64 n0_2], .int .i64 n1] w fun e w1 => ∃ v, e = .returned v ∧ R v w1 := fnP_calls callable Tryz.func74 (layout_Parity_eq n0_0 n0_1 n0_2 n1 w R ▸ h)

/-- (revetment/layout.plan).in -/
def layout_plan_in (n0_0 : Int) (n0_1 : Int) (n0_2 : Int) (n1 : Int) (n2 : Int) (n3 : Int) (w : World) (R : Value → World → Prop) : Prop :=
  Alloc #[.int .i64 n0_0, .int .i64 n0_1, .int .i64 n0_2] 119 w fun k4 w1 =>
  ∃ n9_0 : Int, ∃ n9_1 : Int, ∃ n9_2 : Int, (w1.cell? ⟨k4, 0, none⟩ = some (.int .i64 n9_0) ∧ w1.cell? ⟨k4, 1, none⟩ = some (.int .i64 n9_1) ∧ w1.cell? ⟨k4, 2, none⟩ = some (.int .i64 n9_2)) ∧
  Calls Tryz.prog 96 #[.agg #[.int .i64 n9_0, .int .i64 n9_1, .int .i64 n9_2]] w1 fun e w2 => ∃ b10 : Bool, e = .returned (.bool b10) ∧
  (b10 = true →
  ((decide (n1 ≥ 0)) = true →
  ∃ n19 : Int, w2.cell? ⟨k4, 2, none⟩ = some (.int .i64 n19) ∧
  ((decide (n1 < n19)) = true →
  ((decide (n2 ≥ 0)) = true →
  R (.bool (decide (n2 < n3))) w2) ∧
  ((decide (n2 ≥ 0)) = false →
  R (.bool false) w2)) ∧
  ((decide (n1 < n19)) = false →
  R (.bool false) w2)) ∧
  ((decide (n1 ≥ 0)) = false →
  R (.bool false) w2)) ∧
  (b10 = false →
  R (.bool false) w2)
theorem layout_plan_in_eq (n0_0 : Int) (n0_1 : Int) (n0_2 : Int) (n1 : Int) (n2 : Int) (n3 : Int) (w : World) (R : Value → World → Prop) : layout_plan_in n0_0 n0_1 n0_2 n1 n2 n3 w R = fnP Tryz.prog Tryz.f77 .o [.agg #[.int .i64 n0_0, .int .i64 n0_1, .int .i64 n0_2], .int .i64 n1, .int .i64 n2, .int .i64 n3] w R := by kernel_rfl
theorem layout_plan_in_calls {n0_0 : Int} {n0_1 : Int} {n0_2 : Int} {n1 : Int} {n2 : Int} {n3 : Int} {w : World} {R : Value → World → Prop} (h : layout_plan_in n0_0 n0_1 n0_2 n1 n2 n3 w R) : Calls Tryz.prog 77 #[.agg #[.int .i64 n0_0, .int .i64 n0_1, .int .i64 n0_2], .int .i64 n1, .int .i64 n2, .int .i64 n3] w fun e w1 => ∃ v, e = .returned v ∧ R v w1 := fnP_calls callable Tryz.func77 (layout_plan_in_eq n0_0 n0_1 n0_2 n1 n2 n3 w R ▸ h)

/-- (revetment/row.place).sectors$1 -/
def row_place_sectors_1 (v0 : Value) (k1 : Addr) (w : World) (R : Value → World → Prop) : Prop :=
  ∃ n7 : Int, w.cell? k1 = some (.int .i64 n7) ∧
  LoopP (fun I => I [.int .i64 0] w) fun K vs w1 => ∃ n8 : Int, vs = [.int .i64 n8] ∧
  ((decide (n8 < n7)) = true →
  ∃ n12_0 : Int, ∃ n12_1 : Int, ∃ n12_2 : Int, ∃ (p12_3 : Option Addr) (l12_3 c12_3 : Nat), ∃ (p12_4 : Option Addr) (l12_4 c12_4 : Nat), ∃ n12_5 : Int, ∃ n12_6 : Int, (w1.cell? k1 = some (.int .i64 n12_0) ∧ w1.cell? (k1.add 1) = some (.int .i64 n12_1) ∧ w1.cell? (k1.add 2) = some (.int .i64 n12_2) ∧ w1.cell? (k1.add 3) = some (.slice p12_3 l12_3 c12_3) ∧ w1.cell? (k1.add 4) = some (.slice p12_4 l12_4 c12_4) ∧ w1.cell? (k1.add 5) = some (.int .i64 n12_5) ∧ w1.cell? (k1.add 6) = some (.int .i64 n12_6)) ∧
  Calls Tryz.prog 44 #[.agg #[.int .i64 n12_0, .int .i64 n12_1, .int .i64 n12_2, .slice p12_3 l12_3 c12_3, .slice p12_4 l12_4 c12_4, .int .i64 n12_5, .int .i64 n12_6], .int .i64 n8] w1 fun e w2 => ∃ s14_0 : ByteArray, ∃ n14_1 : Int, e = .returned (.tuple #[.string s14_0, .int .i64 n14_1]) ∧
  CallF Tryz.prog v0 [.string s14_0, .int .i64 n14_1] w2 fun e_1 w3 => ∃ b17 : Bool, e_1 = .returned (.bool b17) ∧
  ((!b17) = true →
  R (.tuple #[]) w3) ∧
  ((!b17) = false →
  K [.int .i64 (IntKind.i64.wrap (n8 + 1))] w3)) ∧
  ((decide (n8 < n7)) = false →
  R (.tuple #[]) w1)
theorem row_place_sectors_1_eq (v0 : Value) (k1 : Addr) (w : World) (R : Value → World → Prop) : row_place_sectors_1 v0 k1 w R = fnP Tryz.prog Tryz.f80 (.s .o (.b (.l [(8, .one (.int .i64))] .o))) [v0, .pointer (some k1)] w R := by kernel_rfl
theorem row_place_sectors_1_calls {v0 : Value} {k1 : Addr} {w : World} {R : Value → World → Prop} (h : row_place_sectors_1 v0 k1 w R) : Calls Tryz.prog 80 #[v0, .pointer (some k1)] w fun e w1 => ∃ v, e = .returned v ∧ R v w1 := fnP_calls callable Tryz.func80 (row_place_sectors_1_eq v0 k1 w R ▸ h)

/-- revetment/refill.May -/
def refill_May (p0 : Option Addr) (l0 c0 : Nat) (p1 : Option Addr) (l1 c1 : Nat) (w : World) (R : Value → World → Prop) : Prop :=
  ((decide ((l0 : Int) < 4)) = true →
  R (.int .i64 1) w) ∧
  ((decide ((l0 : Int) < 4)) = false →
  ((decide ((l0 : Int) > 10)) = true →
  R (.int .i64 1) w) ∧
  ((decide ((l0 : Int) > 10)) = false →
  ∃ (p21 : Option Addr) (l21 c21 : Nat), ∃ w1, (Instr.makeSlice 102 (.int .i64 (l0 : Int)) (.int .i64 (l0 : Int))).run Tryz.prog w = .ok (.slice p21 l21 c21) w1 ∧
  LoopP (fun I => I [.int .i64 0] w1) fun K vs w2 => ∃ n24 : Int, vs = [.int .i64 n24] ∧
  ((decide (n24 < (l1 : Int))) = true →
  ∃ a26 : Addr, p1 = some a26 ∧ (0 : Int) ≤ n24 ∧ n24 < (l1 : Int) ∧
  ∃ n27 : Int, w2.cell? (Addr.add a26 (n24.toNat * 1)) = some (.int .i64 n27) ∧
  ((decide (n27 < 0)) = true →
  R (.int .i64 1) w2) ∧
  ((decide (n27 < 0)) = false →
  ((decide (n27 ≥ (l0 : Int))) = true →
  R (.int .i64 1) w2) ∧
  ((decide (n27 ≥ (l0 : Int))) = false →
  ∃ a39 : Addr, p21 = some a39 ∧ (0 : Int) ≤ n27 ∧ n27 < (l21 : Int) ∧
  ∃ b40 : Bool, w2.cell? (Addr.add a39 (n27.toNat * 1)) = some (.bool b40) ∧
  (b40 = true →
  R (.int .i64 1) w2) ∧
  (b40 = false →
  ∃ a44 : Addr, p21 = some a44 ∧ (0 : Int) ≤ n27 ∧ n27 < (l21 : Int) ∧
  St (Addr.add a44 (n27.toNat * 1)) (.bool true) w2 fun w3 =>
  K [.int .i64 (IntKind.i64.wrap (n24 + 1))] w3)))) ∧
  ((decide (n24 < (l1 : Int))) = false →
  LoopP (fun I_1 => I_1 [.int .i64 (-1), .int .i64 0] w2) fun K_1 vs_1 w4 => ∃ n8 : Int, ∃ n48 : Int, vs_1 = [.int .i64 n8, .int .i64 n48] ∧
  ((decide (n48 < (l0 : Int))) = true →
  ∃ a51 : Addr, p0 = some a51 ∧ (0 : Int) ≤ n48 ∧ n48 < (l0 : Int) ∧
  ∃ s52 : ByteArray, w4.cell? (Addr.add a51 (n48.toNat * 1)) = some (.string s52) ∧
  ∃ a58 : Addr, p21 = some a58 ∧ (0 : Int) ≤ n48 ∧ n48 < (l21 : Int) ∧
  ∃ b59 : Bool, w4.cell? (Addr.add a58 (n48.toNat * 1)) = some (.bool b59) ∧
  (b59 = true →
  K_1 [.int .i64 n8, .int .i64 (IntKind.i64.wrap (n48 + 1))] w4) ∧
  (b59 = false →
  Join (fun vs_2 w5 => ∃ b60 : Bool, vs_2 = [.bool b60] ∧
  (b60 = true →
  R (.int .i64 1) w5) ∧
  (b60 = false →
  K_1 [.int .i64 (s52.size : Int), .int .i64 (IntKind.i64.wrap (n48 + 1))] w5)) fun J =>
  ((decide (n8 ≥ 0)) = true →
  (((s52.size : Int) != n8) = true →
  J [.bool true] w4) ∧
  (((s52.size : Int) != n8) = false →
  J [.bool (decide ((s52.size : Int) > 4096))] w4)) ∧
  ((decide (n8 ≥ 0)) = false →
  J [.bool (decide ((s52.size : Int) > 4096))] w4))) ∧
  ((decide (n48 < (l0 : Int))) = false →
  ((decide ((l1 : Int) > 2)) = true →
  R (.int .i64 60) w4) ∧
  ((decide ((l1 : Int) > 2)) = false →
  R (.int .i64 0) w4)))))
theorem refill_May_eq (p0 : Option Addr) (l0 c0 : Nat) (p1 : Option Addr) (l1 c1 : Nat) (w : World) (R : Value → World → Prop) : refill_May p0 l0 c0 p1 l1 c1 w R = fnP Tryz.prog Tryz.f81 (.s .o (.s .o (.s .o (.s (.s .o (.b (.l [(24, .one (.int .i64))] .o))) (.s .o (.s (.s .o (.b (.l [(8, .one (.int .i64)), (48, .one (.int .i64))] (.s .o (.s .o (.s (.b (.s .o (.b (.s .o (.c .o (.j [(60, .one .bool)] .o .o)))))) .o)))))) .o)))))) [.slice p0 l0 c0, .slice p1 l1 c1] w R := by kernel_rfl
theorem refill_May_calls {p0 : Option Addr} {l0 c0 : Nat} {p1 : Option Addr} {l1 c1 : Nat} {w : World} {R : Value → World → Prop} (h : refill_May p0 l0 c0 p1 l1 c1 w R) : Calls Tryz.prog 81 #[.slice p0 l0 c0, .slice p1 l1 c1] w fun e w1 => ∃ v, e = .returned v ∧ R v w1 := fnP_calls callable Tryz.func81 (refill_May_eq p0 l0 c0 p1 l1 c1 w R ▸ h)

/-- slices.Values[[]int,int] -/
def slices_Values_int_int (p0 : Option Addr) (l0 c0 : Nat) (w : World) (R : Value → World → Prop) : Prop :=
  Alloc #[.slice p0 l0 c0] 28 w fun k1 w1 =>
  R (.func (.func 112) #[] #[.pointer (some ⟨k1, 0, none⟩)]) w1
theorem slices_Values_int_int_eq (p0 : Option Addr) (l0 c0 : Nat) (w : World) (R : Value → World → Prop) : slices_Values_int_int p0 l0 c0 w R = fnP Tryz.prog Tryz.f83 .o [.slice p0 l0 c0] w R := by kernel_rfl
theorem slices_Values_int_int_calls {p0 : Option Addr} {l0 c0 : Nat} {w : World} {R : Value → World → Prop} (h : slices_Values_int_int p0 l0 c0 w R) : Calls Tryz.prog 83 #[.slice p0 l0 c0] w fun e w1 => ∃ v, e = .returned v ∧ R v w1 := fnP_calls callable Tryz.func83 (slices_Values_int_int_eq p0 l0 c0 w R ▸ h)

/-- slices.Clone[[]string,string] -/
def slices_Clone_string_string (p0 : Option Addr) (l0 c0 : Nat) (w : World) (R : Value → World → Prop) : Prop :=
  ((Option.isNone p0) = true →
  R (.slice none 0 0) w) ∧
  ((Option.isNone p0) = false →
  Alloc #[] 9 w fun k5 w1 =>
  ∃ (p7 : Option Addr) (l7 c7 : Nat), ∃ w2, (builtin .append #[22, 22] 22 #[false, false] #[.slice (some ⟨k5, 0, none⟩) 0 0, .slice p0 l0 c0]).run Tryz.prog w1 = .ok (.value (.slice p7 l7 c7)) w2 ∧
  R (.slice p7 l7 c7) w2)
theorem slices_Clone_string_string_eq (p0 : Option Addr) (l0 c0 : Nat) (w : World) (R : Value → World → Prop) : slices_Clone_string_string p0 l0 c0 w R = fnP Tryz.prog Tryz.f84 .o [.slice p0 l0 c0] w R := by kernel_rfl
theorem slices_Clone_string_string_calls {p0 : Option Addr} {l0 c0 : Nat} {w : World} {R : Value → World → Prop} (h : slices_Clone_string_string p0 l0 c0 w R) : Calls Tryz.prog 84 #[.slice p0 l0 c0] w fun e w1 => ∃ v, e = .returned v ∧ R v w1 := fnP_calls callable Tryz.func84 (slices_Clone_string_string_eq p0 l0 c0 w R ▸ h)

/-- slices.Contains[[]int,int] -/
def slices_Contains_int_int (p0 : Option Addr) (l0 c0 : Nat) (n1 : Int) (w : World) (R : Value → World → Prop) : Prop :=
  Calls Tryz.prog 113 #[.slice p0 l0 c0, .int .i64 n1] w fun e w1 => ∃ n7 : Int, e = .returned (.int .i64 n7) ∧
  R (.bool (decide (n7 ≥ 0))) w1
theorem slices_Contains_int_int_eq (p0 : Option Addr) (l0 c0 : Nat) (n1 : Int) (w : World) (R : Value → World → Prop) : slices_Contains_int_int p0 l0 c0 n1 w R = fnP Tryz.prog Tryz.f85 .o [.slice p0 l0 c0, .int .i64 n1] w R := by kernel_rfl
theorem slices_Contains_int_int_calls {p0 : Option Addr} {l0 c0 : Nat} {n1 : Int} {w : World} {R : Value → World → Prop} (h : slices_Contains_int_int p0 l0 c0 n1 w R) : Calls Tryz.prog 85 #[.slice p0 l0 c0, .int .i64 n1] w fun e w1 => ∃ v, e = .returned v ∧ R v w1 := fnP_calls callable Tryz.func85 (slices_Contains_int_int_eq p0 l0 c0 n1 w R ▸ h)

/-- (revetment/refill.row).kind -/
def refill_row_kind (p0_0 : Option Addr) (l0_0 c0_0 : Nat) (n0_1 : Int) (n1 : Int) (w : World) (R : Value → World → Prop) : Prop :=
  Alloc #[.slice p0_0 l0_0 c0_0, .int .i64 n0_1] 129 w fun k2 w1 =>
  ∃ n8 : Int, w1.cell? ⟨k2, 1, none⟩ = some (.int .i64 n8) ∧
  ((decide (n1 < n8)) = true →
  R (.int .i64 1) w1) ∧
  ((decide (n1 < n8)) = false →
  ∃ n13 : Int, w1.cell? ⟨k2, 1, none⟩ = some (.int .i64 n13) ∧
  ((n1 == n13) = true →
  R (.int .i64 2) w1) ∧
  ((n1 == n13) = false →
  R (.int .i64 3) w1))
theorem refill_row_kind_eq (p0_0 : Option Addr) (l0_0 c0_0 : Nat) (n0_1 : Int) (n1 : Int) (w : World) (R : Value → World → Prop) : refill_row_kind p0_0 l0_0 c0_0 n0_1 n1 w R = fnP Tryz.prog Tryz.f87 .o [.agg #[.slice p0_0 l0_0 c0_0, .int .i64 n0_1], .int .i64 n1] w R := by kernel_rfl
theorem refill_row_kind_calls {p0_0 : Option Addr} {l0_0 c0_0 : Nat} {n0_1 : Int} {n1 : Int} {w : World} {R : Value → World → Prop} (h : refill_row_kind p0_0 l0_0 c0_0 n0_1 n1 w R) : Calls Tryz.prog 87 #[.agg #[.slice p0_0 l0_0 c0_0, .int .i64 n0_1], .int .i64 n1] w fun e w1 => ∃ v, e = .returned v ∧ R v w1 := fnP_calls callable Tryz.func87 (refill_row_kind_eq p0_0 l0_0 c0_0 n0_1 n1 w R ▸ h)

/-- revetment/refill.Fill$1 -/
def refill_Fill_1 (b0 : Bool) (b1 : Bool) (k2 : Addr) (w : World) (R : Value → World → Prop) : Prop :=
  Join (fun vs w1 => vs = [] ∧
  (b1 = true →
  ∃ D : World → Prop, D w1.drew ∧
  ∃ (p19 : Option Addr) (l19 c19 : Nat), (∀ w, D w → w.cell? k2 = some (.slice p19 l19 c19)) ∧
  ∃ n21 : Int, (∀ w, D w → w.cell? (k2.add 1) = some (.int .i64 n21)) ∧
  ∃ (p24 : Option Addr) (l24 c24 : Nat), (∀ w, D w → w.cell? k2 = some (.slice p24 l24 c24)) ∧
  ∃ n26 : Int, (∀ w, D w → w.cell? (k2.add 1) = some (.int .i64 n26)) ∧
  ∃ (p27 : Option Addr) (l27 c27 : Nat), (∀ w, D w → (Instr.sliceAt 22 (.slice p24 l24 c24) none (some (.int .i64 n26)) none).run Tryz.prog w = .ok (.slice p27 l27 c27) w) ∧
  Calls Tryz.prog 90 #[.slice p27 l27 c27] w1.drew fun e w2 => ∃ s28 : ByteArray, e = .returned (.string s28) ∧
  D w2 ∧
  ∃ a29 : Addr, p19 = some a29 ∧ (0 : Int) ≤ IntKind.i64.wrap (n21 + 1) ∧ (IntKind.i64.wrap (n21 + 1)) < (l19 : Int) ∧
  St (Addr.add a29 ((IntKind.i64.wrap (n21 + 1)).toNat * 1)) (.string s28) w2 fun w3 =>
  R (.tuple #[]) w3) ∧
  (b1 = false →
  R (.tuple #[]) w1)) fun J =>
  (b0 = true →
  ∃ D_1 : World → Prop, D_1 w.drew ∧
  ∃ (p7 : Option Addr) (l7 c7 : Nat), (∀ w, D_1 w → w.cell? k2 = some (.slice p7 l7 c7)) ∧
  ∃ n9 : Int, (∀ w, D_1 w → w.cell? (k2.add 1) = some (.int .i64 n9)) ∧
  ∃ (p11 : Option Addr) (l11 c11 : Nat), (∀ w, D_1 w → w.cell? k2 = some (.slice p11 l11 c11)) ∧
  ∃ n13 : Int, (∀ w, D_1 w → w.cell? (k2.add 1) = some (.int .i64 n13)) ∧
  ∃ (p14 : Option Addr) (l14 c14 : Nat), (∀ w, D_1 w → (Instr.sliceAt 22 (.slice p11 l11 c11) none (some (.int .i64 n13)) none).run Tryz.prog w = .ok (.slice p14 l14 c14) w) ∧
  Calls Tryz.prog 89 #[.slice p14 l14 c14] w.drew fun e_1 w4 => ∃ s15 : ByteArray, e_1 = .returned (.string s15) ∧
  D_1 w4 ∧
  ∃ a16 : Addr, p7 = some a16 ∧ (0 : Int) ≤ n9 ∧ n9 < (l7 : Int) ∧
  St (Addr.add a16 (n9.toNat * 1)) (.string s15) w4 fun w5 =>
  J [] w5) ∧
  (b0 = false →
  J [] w)
theorem refill_Fill_1_eq (b0 : Bool) (b1 : Bool) (k2 : Addr) (w : World) (R : Value → World → Prop) : refill_Fill_1 b0 b1 k2 w R = fnP Tryz.prog Tryz.f88 (.j [] .o .o) [.bool b0, .bool b1, .pointer (some k2)] w R := by kernel_rfl
theorem refill_Fill_1_calls {b0 : Bool} {b1 : Bool} {k2 : Addr} {w : World} {R : Value → World → Prop} (h : refill_Fill_1 b0 b1 k2 w R) : Calls Tryz.prog 88 #[.bool b0, .bool b1, .pointer (some k2)] w fun e w1 => ∃ v, e = .returned v ∧ R v w1 := fnP_calls callable Tryz.func88 (refill_Fill_1_eq b0 b1 k2 w R ▸ h)

/-- revetment/syndrome.P -/
def syndrome_P (p0 : Option Addr) (l0 c0 : Nat) (w : World) (R : Value → World → Prop) : Prop :=
  Calls Tryz.prog 120 #[.slice p0 l0 c0] w fun e w1 => ∃ s4 : ByteArray, e = .returned (.string s4) ∧
  R (.string s4) w1
theorem syndrome_P_eq (p0 : Option Addr) (l0 c0 : Nat) (w : World) (R : Value → World → Prop) : syndrome_P p0 l0 c0 w R = fnP Tryz.prog Tryz.f89 .o [.slice p0 l0 c0] w R := by kernel_rfl
theorem syndrome_P_calls {p0 : Option Addr} {l0 c0 : Nat} {w : World} {R : Value → World → Prop} (h : syndrome_P p0 l0 c0 w R) : Calls Tryz.prog 89 #[.slice p0 l0 c0] w fun e w1 => ∃ v, e = .returned v ∧ R v w1 := fnP_calls callable Tryz.func89 (syndrome_P_eq p0 l0 c0 w R ▸ h)

/-- revetment/syndrome.Q -/
def syndrome_Q (p0 : Option Addr) (l0 c0 : Nat) (w : World) (R : Value → World → Prop) : Prop :=
  Alloc #[.slice p0 l0 c0] 22 w fun k1 w1 =>
  Alloc #[.string (ByteArray.mk #[])] 9 w1 fun k3 w2 =>
  Calls Tryz.prog 121 #[] w2 fun e w3 => ∃ v5 : Value, e = .returned v5 ∧
  RangeP Tryz.prog v5 (fun ob l args W Φ => ∃ n6 : Int, args = [.int .u8 n6] ∧
  RoundP ob l Φ (fun K X R w4 =>
  ∃ (p7 : Option Addr) (l7 c7 : Nat), w4.cell? ⟨k1, 0, none⟩ = some (.slice p7 l7 c7) ∧
  (((l7 : Int) == 0) = true →
  X 0 w4) ∧
  (((l7 : Int) == 0) = false →
  ∃ D : World → Prop, D w4.drew ∧
  ∃ s10 : ByteArray, (∀ w, D w → w.cell? ⟨k3, 0, none⟩ = some (.string s10)) ∧
  ∃ (p11 : Option Addr) (l11 c11 : Nat), (∀ w, D w → w.cell? ⟨k1, 0, none⟩ = some (.slice p11 l11 c11)) ∧
  ∃ a12 : Addr, p11 = some a12 ∧ (0 : Int) ≤ 0 ∧ 0 < (l11 : Int) ∧
  ∃ s13 : ByteArray, (∀ w, D w → w.cell? a12 = some (.string s13)) ∧
  Calls Tryz.prog 122 #[.string s13, .int .u8 n6] w4.drew fun e_1 w5 => ∃ s15 : ByteArray, e_1 = .returned (.string s15) ∧
  D w5 ∧
  Alloc #[.string s10, .string s15] 9 w5 fun k16 w6 =>
  D w6 ∧
  Calls Tryz.prog 120 #[.slice (some ⟨k16, 0, none⟩) 2 2] w6 fun e_2 w7 => ∃ s17 : ByteArray, e_2 = .returned (.string s17) ∧
  D w7 ∧
  St ⟨k3, 0, none⟩ (.string s17) w7 fun w8 =>
  ∃ (p18 : Option Addr) (l18 c18 : Nat), w8.cell? ⟨k1, 0, none⟩ = some (.slice p18 l18 c18) ∧
  ∃ (p19 : Option Addr) (l19 c19 : Nat), ∃ w9, (Instr.sliceAt 22 (.slice p18 l18 c18) (some (.int .i64 1)) none none).run Tryz.prog w8 = .ok (.slice p19 l19 c19) w9 ∧
  St ⟨k1, 0, none⟩ (.slice p19 l19 c19) w9 fun w10 =>
  K w10)) W) [(0, fun d w11 =>
  ∃ s20 : ByteArray, w11.cell? ⟨k3, 0, none⟩ = some (.string s20) ∧
  w11.heap[d]? = some (.deferred (some [])) ∧
  R (.string s20) (w11.putObj d (.deferred none)))]
  (fun d_1 w12 =>
  ∃ s20_1 : ByteArray, w12.cell? ⟨k3, 0, none⟩ = some (.string s20_1) ∧
  w12.heap[d_1]? = some (.deferred (some [])) ∧
  R (.string s20_1) (w12.putObj d_1 (.deferred none)))
  (fun d_2 w13 =>
  w13.heap[d_2]? = some (.deferred (some [])) ∧
  R (.string (ByteArray.mk #[])) (w13.putObj d_2 (.deferred none))) w3
theorem syndrome_Q_eq (p0 : Option Addr) (l0 c0 : Nat) (w : World) (R : Value → World → Prop) : syndrome_Q p0 l0 c0 w R = fnP Tryz.prog Tryz.f90 (.s .o (.s .o (.s (.s .o (.b (.rf [(6, .one (.int .u8))] .o))) .o))) [.slice p0 l0 c0] w R := by kernel_rfl
theorem syndrome_Q_calls {p0 : Option Addr} {l0 c0 : Nat} {w : World} {R : Value → World → Prop} (h : syndrome_Q p0 l0 c0 w R) : Calls Tryz.prog 90 #[.slice p0 l0 c0] w fun e w1 => ∃ v, e = .returned v ∧ R v w1 := fnP_calls callable Tryz.func90 (syndrome_Q_eq p0 l0 c0 w R ▸ h)

/-- (revetment/refill.row).both -/
def refill_row_both (p0_0 : Option Addr) (l0_0 c0_0 : Nat) (n0_1 : Int) (n1 : Int) (n2 : Int) (w : World) (R : Value → World → Prop) : Prop :=
  Alloc #[.slice p0_0 l0_0 c0_0, .int .i64 n0_1] 129 w fun k3 w1 =>
  ∃ (p12 : Option Addr) (l12 c12 : Nat), w1.cell? ⟨k3, 0, none⟩ = some (.slice p12 l12 c12) ∧
  Calls Tryz.prog 123 #[.slice p12 l12 c12] w1 fun e w2 => ∃ s13_0 : ByteArray, ∃ s13_1 : ByteArray, e = .returned (.tuple #[.string s13_0, .string s13_1]) ∧
  Calls Tryz.prog 125 #[.int .i64 n1] w2 fun e_1 w3 => ∃ n18 : Int, e_1 = .returned (.int .u8 n18) ∧
  Calls Tryz.prog 125 #[.int .i64 n2] w3 fun e_2 w4 => ∃ n20 : Int, e_2 = .returned (.int .u8 n20) ∧
  Calls Tryz.prog 124 #[.int .u8 (bits2 .xor .u8 n18 n20)] w4 fun e_3 w5 => ∃ n22_0 : Int, ∃ b22_1 : Bool, e_3 = .returned (.tuple #[.int .u8 n22_0, .bool b22_1]) ∧
  ∃ D : World → Prop, D w5.drew ∧
  ∃ (p26 : Option Addr) (l26 c26 : Nat), (∀ w, D w → w.cell? ⟨k3, 0, none⟩ = some (.slice p26 l26 c26)) ∧
  Calls Tryz.prog 125 #[.int .i64 n1] w5.drew fun e_4 w6 => ∃ n31 : Int, e_4 = .returned (.int .u8 n31) ∧
  D w6 ∧
  Calls Tryz.prog 122 #[.string s13_0, .int .u8 n31] w6 fun e_5 w7 => ∃ s32 : ByteArray, e_5 = .returned (.string s32) ∧
  D w7 ∧
  Calls Tryz.prog 126 #[.string s13_1, .string s32] w7 fun e_6 w8 => ∃ s33 : ByteArray, e_6 = .returned (.string s33) ∧
  D w8 ∧
  Calls Tryz.prog 122 #[.string s33, .int .u8 n22_0] w8 fun e_7 w9 => ∃ s35 : ByteArray, e_7 = .returned (.string s35) ∧
  D w9 ∧
  ∃ a36 : Addr, p26 = some a36 ∧ (0 : Int) ≤ n2 ∧ n2 < (l26 : Int) ∧
  St (Addr.add a36 (n2.toNat * 1)) (.string s35) w9 fun w10 =>
  ∃ D_1 : World → Prop, D_1 w10.drew ∧
  ∃ (p38 : Option Addr) (l38 c38 : Nat), (∀ w, D_1 w → w.cell? ⟨k3, 0, none⟩ = some (.slice p38 l38 c38)) ∧
  ∃ (p42 : Option Addr) (l42 c42 : Nat), (∀ w, D_1 w → w.cell? ⟨k3, 0, none⟩ = some (.slice p42 l42 c42)) ∧
  ∃ a44 : Addr, p42 = some a44 ∧ (0 : Int) ≤ n2 ∧ n2 < (l42 : Int) ∧
  ∃ s45 : ByteArray, (∀ w, D_1 w → w.cell? (Addr.add a44 (n2.toNat * 1)) = some (.string s45)) ∧
  Calls Tryz.prog 126 #[.string s13_0, .string s45] w10.drew fun e_8 w11 => ∃ s46 : ByteArray, e_8 = .returned (.string s46) ∧
  D_1 w11 ∧
  ∃ a47 : Addr, p38 = some a47 ∧ (0 : Int) ≤ n1 ∧ n1 < (l38 : Int) ∧
  St (Addr.add a47 (n1.toNat * 1)) (.string s46) w11 fun w12 =>
  R (.tuple #[]) w12
theorem refill_row_both_eq (p0_0 : Option Addr) (l0_0 c0_0 : Nat) (n0_1 : Int) (n1 : Int) (n2 : Int) (w : World) (R : Value → World → Prop) : refill_row_both p0_0 l0_0 c0_0 n0_1 n1 n2 w R = fnP Tryz.prog Tryz.f91 .o [.agg #[.slice p0_0 l0_0 c0_0, .int .i64 n0_1], .int .i64 n1, .int .i64 n2] w R := by kernel_rfl
theorem refill_row_both_calls {p0_0 : Option Addr} {l0_0 c0_0 : Nat} {n0_1 : Int} {n1 : Int} {n2 : Int} {w : World} {R : Value → World → Prop} (h : refill_row_both p0_0 l0_0 c0_0 n0_1 n1 n2 w R) : Calls Tryz.prog 91 #[.agg #[.slice p0_0 l0_0 c0_0, .int .i64 n0_1], .int .i64 n1, .int .i64 n2] w fun e w1 => ∃ v, e = .returned v ∧ R v w1 := fnP_calls callable Tryz.func91 (refill_row_both_eq p0_0 l0_0 c0_0 n0_1 n1 n2 w R ▸ h)

/-- (revetment/refill.row).byQ -/
def refill_row_byQ (p0_0 : Option Addr) (l0_0 c0_0 : Nat) (n0_1 : Int) (n1 : Int) (w : World) (R : Value → World → Prop) : Prop :=
  Alloc #[.slice p0_0 l0_0 c0_0, .int .i64 n0_1] 129 w fun k2 w1 =>
  ∃ (p8 : Option Addr) (l8 c8 : Nat), w1.cell? ⟨k2, 0, none⟩ = some (.slice p8 l8 c8) ∧
  Calls Tryz.prog 123 #[.slice p8 l8 c8] w1 fun e w2 => ∃ s9_0 : ByteArray, ∃ s9_1 : ByteArray, e = .returned (.tuple #[.string s9_0, .string s9_1]) ∧
  ∃ D : World → Prop, D w2.drew ∧
  ∃ (p13 : Option Addr) (l13 c13 : Nat), (∀ w, D w → w.cell? ⟨k2, 0, none⟩ = some (.slice p13 l13 c13)) ∧
  ∃ (p16 : Option Addr) (l16 c16 : Nat), (∀ w, D w → w.cell? ⟨k2, 0, none⟩ = some (.slice p16 l16 c16)) ∧
  ∃ a18 : Addr, p16 = some a18 ∧ (0 : Int) ≤ n1 ∧ n1 < (l16 : Int) ∧
  ∃ s19 : ByteArray, (∀ w, D w → w.cell? (Addr.add a18 (n1.toNat * 1)) = some (.string s19)) ∧
  Calls Tryz.prog 125 #[.int .i64 (IntKind.i64.wrap (0 - n1))] w2.drew fun e_1 w3 => ∃ n23 : Int, e_1 = .returned (.int .u8 n23) ∧
  D w3 ∧
  Calls Tryz.prog 122 #[.string s9_1, .int .u8 n23] w3 fun e_2 w4 => ∃ s24 : ByteArray, e_2 = .returned (.string s24) ∧
  D w4 ∧
  Calls Tryz.prog 126 #[.string s19, .string s24] w4 fun e_3 w5 => ∃ s25 : ByteArray, e_3 = .returned (.string s25) ∧
  D w5 ∧
  ∃ a26 : Addr, p13 = some a26 ∧ (0 : Int) ≤ n1 ∧ n1 < (l13 : Int) ∧
  St (Addr.add a26 (n1.toNat * 1)) (.string s25) w5 fun w6 =>
  R (.tuple #[]) w6
theorem refill_row_byQ_eq (p0_0 : Option Addr) (l0_0 c0_0 : Nat) (n0_1 : Int) (n1 : Int) (w : World) (R : Value → World → Prop) : refill_row_byQ p0_0 l0_0 c0_0 n0_1 n1 w R = fnP Tryz.prog Tryz.f92 .o [.agg #[.slice p0_0 l0_0 c0_0, .int .i64 n0_1], .int .i64 n1] w R := by kernel_rfl
theorem refill_row_byQ_calls {p0_0 : Option Addr} {l0_0 c0_0 : Nat} {n0_1 : Int} {n1 : Int} {w : World} {R : Value → World → Prop} (h : refill_row_byQ p0_0 l0_0 c0_0 n0_1 n1 w R) : Calls Tryz.prog 92 #[.agg #[.slice p0_0 l0_0 c0_0, .int .i64 n0_1], .int .i64 n1] w fun e w1 => ∃ v, e = .returned v ∧ R v w1 := fnP_calls callable Tryz.func92 (refill_row_byQ_eq p0_0 l0_0 c0_0 n0_1 n1 w R ▸ h)

/-- (revetment/refill.row).byP -/
def refill_row_byP (p0_0 : Option Addr) (l0_0 c0_0 : Nat) (n0_1 : Int) (n1 : Int) (w : World) (R : Value → World → Prop) : Prop :=
  Alloc #[.slice p0_0 l0_0 c0_0, .int .i64 n0_1] 129 w fun k2 w1 =>
  ∃ (p8 : Option Addr) (l8 c8 : Nat), w1.cell? ⟨k2, 0, none⟩ = some (.slice p8 l8 c8) ∧
  Calls Tryz.prog 123 #[.slice p8 l8 c8] w1 fun e w2 => ∃ s9_0 : ByteArray, ∃ s9_1 : ByteArray, e = .returned (.tuple #[.string s9_0, .string s9_1]) ∧
  ∃ D : World → Prop, D w2.drew ∧
  ∃ (p13 : Option Addr) (l13 c13 : Nat), (∀ w, D w → w.cell? ⟨k2, 0, none⟩ = some (.slice p13 l13 c13)) ∧
  ∃ (p16 : Option Addr) (l16 c16 : Nat), (∀ w, D w → w.cell? ⟨k2, 0, none⟩ = some (.slice p16 l16 c16)) ∧
  ∃ a18 : Addr, p16 = some a18 ∧ (0 : Int) ≤ n1 ∧ n1 < (l16 : Int) ∧
  ∃ s19 : ByteArray, (∀ w, D w → w.cell? (Addr.add a18 (n1.toNat * 1)) = some (.string s19)) ∧
  Calls Tryz.prog 126 #[.string s19, .string s9_0] w2.drew fun e_1 w3 => ∃ s21 : ByteArray, e_1 = .returned (.string s21) ∧
  D w3 ∧
  ∃ a22 : Addr, p13 = some a22 ∧ (0 : Int) ≤ n1 ∧ n1 < (l13 : Int) ∧
  St (Addr.add a22 (n1.toNat * 1)) (.string s21) w3 fun w4 =>
  R (.tuple #[]) w4
theorem refill_row_byP_eq (p0_0 : Option Addr) (l0_0 c0_0 : Nat) (n0_1 : Int) (n1 : Int) (w : World) (R : Value → World → Prop) : refill_row_byP p0_0 l0_0 c0_0 n0_1 n1 w R = fnP Tryz.prog Tryz.f93 .o [.agg #[.slice p0_0 l0_0 c0_0, .int .i64 n0_1], .int .i64 n1] w R := by kernel_rfl
theorem refill_row_byP_calls {p0_0 : Option Addr} {l0_0 c0_0 : Nat} {n0_1 : Int} {n1 : Int} {w : World} {R : Value → World → Prop} (h : refill_row_byP p0_0 l0_0 c0_0 n0_1 n1 w R) : Calls Tryz.prog 93 #[.agg #[.slice p0_0 l0_0 c0_0, .int .i64 n0_1], .int .i64 n1] w fun e w1 => ∃ v, e = .returned v ∧ R v w1 := fnP_calls callable Tryz.func93 (refill_row_byP_eq p0_0 l0_0 c0_0 n0_1 n1 w R ▸ h)

/-- (revetment/layout.plan).good -/
def layout_plan_good (n0_0 : Int) (n0_1 : Int) (n0_2 : Int) (w : World) (R : Value → World → Prop) : Prop :=
  Alloc #[.int .i64 n0_0, .int .i64 n0_1, .int .i64 n0_2] 119 w fun k1 w1 =>
  ∃ n4_0 : Int, ∃ n4_1 : Int, ∃ n4_2 : Int, (w1.cell? ⟨k1, 0, none⟩ = some (.int .i64 n4_0) ∧ w1.cell? ⟨k1, 1, none⟩ = some (.int .i64 n4_1) ∧ w1.cell? ⟨k1, 2, none⟩ = some (.int .i64 n4_2)) ∧
  Calls Tryz.prog 53 #[.agg #[.int .i64 n4_0, .int .i64 n4_1, .int .i64 n4_2]] w1 fun e w2 => ∃ n5 : Int, e = .returned (.int .i64 n5) ∧
  R (.bool (n5 == 0)) w2
theorem layout_plan_good_eq (n0_0 : Int) (n0_1 : Int) (n0_2 : Int) (w : World) (R : Value → World → Prop) : layout_plan_good n0_0 n0_1 n0_2 w R = fnP Tryz.prog Tryz.f96 .o [.agg #[.int .i64 n0_0, .int .i64 n0_1, .int .i64 n0_2]] w R := by kernel_rfl
theorem layout_plan_good_calls {n0_0 : Int} {n0_1 : Int} {n0_2 : Int} {w : World} {R : Value → World → Prop} (h : layout_plan_good n0_0 n0_1 n0_2 w R) : Calls Tryz.prog 96 #[.agg #[.int .i64 n0_0, .int .i64 n0_1, .int .i64 n0_2]] w fun e w1 => ∃ v, e = .returned v ∧ R v w1 := fnP_calls callable Tryz.func96 (layout_plan_good_eq n0_0 n0_1 n0_2 w R ▸ h)

/-- slices.IndexFunc[[]*revetment/drive.Drive,*revetment/drive.Drive] -/
def slices_IndexFunc_drive_Drive_drive_Drive (p0 : Option Addr) (l0 c0 : Nat) (v1 : Value) (w : World) (R : Value → World → Prop) : Prop :=
  LoopP (fun I => I [.int .i64 0] w) fun K vs w1 => ∃ n8 : Int, vs = [.int .i64 n8] ∧
  ((decide (n8 < (l0 : Int))) = true →
  ∃ a14 : Addr, p0 = some a14 ∧ (0 : Int) ≤ n8 ∧ n8 < (l0 : Int) ∧
  ∃ p15 : Option Addr, w1.cell? (Addr.add a14 (n8.toNat * 1)) = some (.pointer p15) ∧
  CallF Tryz.prog v1 [.pointer p15] w1 fun e w2 => ∃ b16 : Bool, e = .returned (.bool b16) ∧
  (b16 = true →
  R (.int .i64 n8) w2) ∧
  (b16 = false →
  K [.int .i64 (IntKind.i64.wrap (n8 + 1))] w2)) ∧
  ((decide (n8 < (l0 : Int))) = false →
  R (.int .i64 (-1)) w1)
theorem slices_IndexFunc_drive_Drive_drive_Drive_eq (p0 : Option Addr) (l0 c0 : Nat) (v1 : Value) (w : World) (R : Value → World → Prop) : slices_IndexFunc_drive_Drive_drive_Drive p0 l0 c0 v1 w R = fnP Tryz.prog Tryz.f97 (.s .o (.s (.s .o (.b (.l [(8, .one (.int .i64))] .o))) .o)) [.slice p0 l0 c0, v1] w R := by kernel_rfl
theorem slices_IndexFunc_drive_Drive_drive_Drive_calls {p0 : Option Addr} {l0 c0 : Nat} {v1 : Value} {w : World} {R : Value → World → Prop} (h : slices_IndexFunc_drive_Drive_drive_Drive p0 l0 c0 v1 w R) : Calls Tryz.prog 97 #[.slice p0 l0 c0, v1] w fun e w1 => ∃ v, e = .returned v ∧ R v w1 := fnP_calls callable Tryz.func97 (slices_IndexFunc_drive_Drive_drive_Drive_eq p0 l0 c0 v1 w R ▸ h)

/-- (revetment/layout.plan).data -/
def layout_plan_data (n0_0 : Int) (n0_1 : Int) (n0_2 : Int) (w : World) (R : Value → World → Prop) : Prop :=
  Alloc #[.int .i64 n0_0, .int .i64 n0_1, .int .i64 n0_2] 119 w fun k1 w1 =>
  ∃ n5 : Int, w1.cell? ⟨k1, 0, none⟩ = some (.int .i64 n5) ∧
  R (.int .i64 (IntKind.i64.wrap (n5 - 2))) w1
theorem layout_plan_data_eq (n0_0 : Int) (n0_1 : Int) (n0_2 : Int) (w : World) (R : Value → World → Prop) : layout_plan_data n0_0 n0_1 n0_2 w R = fnP Tryz.prog Tryz.f108 .o [.agg #[.int .i64 n0_0, .int .i64 n0_1, .int .i64 n0_2]] w R := by kernel_rfl
theorem layout_plan_data_calls {n0_0 : Int} {n0_1 : Int} {n0_2 : Int} {w : World} {R : Value → World → Prop} (h : layout_plan_data n0_0 n0_1 n0_2 w R) : Calls Tryz.prog 108 #[.agg #[.int .i64 n0_0, .int .i64 n0_1, .int .i64 n0_2]] w fun e w1 => ∃ v, e = .returned v ∧ R v w1 := fnP_calls callable Tryz.func108 (layout_plan_data_eq n0_0 n0_1 n0_2 w R ▸ h)

/-- (revetment/layout.plan).first -/
def layout_plan_first (n0_0 : Int) (n0_1 : Int) (n0_2 : Int) (n1 : Int) (w : World) (R : Value → World → Prop) : Prop :=
  Alloc #[.int .i64 n0_0, .int .i64 n0_1, .int .i64 n0_2] 119 w fun k2 w1 =>
  ∃ D : World → Prop, D w1.drew ∧
  ∃ n7 : Int, (∀ w, D w → w.cell? ⟨k2, 0, none⟩ = some (.int .i64 n7)) ∧
  ∃ n12 : Int, (∀ w, D w → w.cell? ⟨k2, 0, none⟩ = some (.int .i64 n12)) ∧
  n12 ≠ 0 ∧
  ∃ n17 : Int, (∀ w, D w → w.cell? ⟨k2, 0, none⟩ = some (.int .i64 n17)) ∧
  n17 ≠ 0 ∧
  R (.int .i64 (Int.tmod (IntKind.i64.wrap ((IntKind.i64.wrap (2 * n7)) - (Int.tmod n1 n12))) n17)) w1.drew
theorem layout_plan_first_eq (n0_0 : Int) (n0_1 : Int) (n0_2 : Int) (n1 : Int) (w : World) (R : Value → World → Prop) : layout_plan_first n0_0 n0_1 n0_2 n1 w R = fnP Tryz.prog Tryz.f109 .o [.agg #[.int .i64 n0_0, .int .i64 n0_1, .int .i64 n0_2], .int .i64 n1] w R := by kernel_rfl
theorem layout_plan_first_calls {n0_0 : Int} {n0_1 : Int} {n0_2 : Int} {n1 : Int} {w : World} {R : Value → World → Prop} (h : layout_plan_first n0_0 n0_1 n0_2 n1 w R) : Calls Tryz.prog 109 #[.agg #[.int .i64 n0_0, .int .i64 n0_1, .int .i64 n0_2], .int .i64 n1] w fun e w1 => ∃ v, e = .returned v ∧ R v w1 := fnP_calls callable Tryz.func109 (layout_plan_first_eq n0_0 n0_1 n0_2 n1 w R ▸ h)

/-- slices.Values[[]int,int]$1 -/
def slices_Values_int_int_1 (v0 : Value) (k1 : Addr) (w : World) (R : Value → World → Prop) : Prop :=
  ∃ (p5 : Option Addr) (l5 c5 : Nat), w.cell? k1 = some (.slice p5 l5 c5) ∧
  LoopP (fun I => I [.int .i64 0] w) fun K vs w1 => ∃ n7 : Int, vs = [.int .i64 n7] ∧
  ((decide (n7 < (l5 : Int))) = true →
  ∃ a9 : Addr, p5 = some a9 ∧ (0 : Int) ≤ n7 ∧ n7 < (l5 : Int) ∧
  ∃ n10 : Int, w1.cell? (Addr.add a9 (n7.toNat * 1)) = some (.int .i64 n10) ∧
  CallF Tryz.prog v0 [.int .i64 n10] w1 fun e w2 => ∃ b13 : Bool, e = .returned (.bool b13) ∧
  ((!b13) = true →
  R (.tuple #[]) w2) ∧
  ((!b13) = false →
  K [.int .i64 (IntKind.i64.wrap (n7 + 1))] w2)) ∧
  ((decide (n7 < (l5 : Int))) = false →
  R (.tuple #[]) w1)
theorem slices_Values_int_int_1_eq (v0 : Value) (k1 : Addr) (w : World) (R : Value → World → Prop) : slices_Values_int_int_1 v0 k1 w R = fnP Tryz.prog Tryz.f112 (.s .o (.b (.l [(7, .one (.int .i64))] .o))) [v0, .pointer (some k1)] w R := by kernel_rfl
theorem slices_Values_int_int_1_calls {v0 : Value} {k1 : Addr} {w : World} {R : Value → World → Prop} (h : slices_Values_int_int_1 v0 k1 w R) : Calls Tryz.prog 112 #[v0, .pointer (some k1)] w fun e w1 => ∃ v, e = .returned v ∧ R v w1 := fnP_calls callable Tryz.func112 (slices_Values_int_int_1_eq v0 k1 w R ▸ h)

/-- slices.Index[[]int,int] -/
def slices_Index_int_int (p0 : Option Addr) (l0 c0 : Nat) (n1 : Int) (w : World) (R : Value → World → Prop) : Prop :=
  LoopP (fun I => I [.int .i64 0] w) fun K vs w1 => ∃ n8 : Int, vs = [.int .i64 n8] ∧
  ((decide (n8 < (l0 : Int))) = true →
  ∃ a14 : Addr, p0 = some a14 ∧ (0 : Int) ≤ n8 ∧ n8 < (l0 : Int) ∧
  ∃ n15 : Int, w1.cell? (Addr.add a14 (n8.toNat * 1)) = some (.int .i64 n15) ∧
  ((n1 == n15) = true →
  R (.int .i64 n8) w1) ∧
  ((n1 == n15) = false →
  K [.int .i64 (IntKind.i64.wrap (n8 + 1))] w1)) ∧
  ((decide (n8 < (l0 : Int))) = false →
  R (.int .i64 (-1)) w1)
theorem slices_Index_int_int_eq (p0 : Option Addr) (l0 c0 : Nat) (n1 : Int) (w : World) (R : Value → World → Prop) : slices_Index_int_int p0 l0 c0 n1 w R = fnP Tryz.prog Tryz.f113 (.s .o (.s (.s .o (.b (.l [(8, .one (.int .i64))] .o))) .o)) [.slice p0 l0 c0, .int .i64 n1] w R := by kernel_rfl
theorem slices_Index_int_int_calls {p0 : Option Addr} {l0 c0 : Nat} {n1 : Int} {w : World} {R : Value → World → Prop} (h : slices_Index_int_int p0 l0 c0 n1 w R) : Calls Tryz.prog 113 #[.slice p0 l0 c0, .int .i64 n1] w fun e w1 => ∃ v, e = .returned v ∧ R v w1 := fnP_calls callable Tryz.func113 (slices_Index_int_int_eq p0 l0 c0 n1 w R ▸ h)

/-- revetment/syndrome.added -/
def syndrome_added (p0 : Option Addr) (l0 c0 : Nat) (w : World) (R : Value → World → Prop) : Prop :=
  LoopP (fun I => I [.string (ByteArray.mk #[]), .int .i64 0] w) fun K vs w1 => ∃ s3 : ByteArray, ∃ n8 : Int, vs = [.string s3, .int .i64 n8] ∧
  ((decide (n8 < (l0 : Int))) = true →
  ∃ a10 : Addr, p0 = some a10 ∧ (0 : Int) ≤ n8 ∧ n8 < (l0 : Int) ∧
  ∃ s11 : ByteArray, w1.cell? (Addr.add a10 (n8.toNat * 1)) = some (.string s11) ∧
  Calls Tryz.prog 126 #[.string s3, .string s11] w1 fun e w2 => ∃ s14 : ByteArray, e = .returned (.string s14) ∧
  K [.string s14, .int .i64 (IntKind.i64.wrap (n8 + 1))] w2) ∧
  ((decide (n8 < (l0 : Int))) = false →
  R (.string s3) w1)
theorem syndrome_added_eq (p0 : Option Addr) (l0 c0 : Nat) (w : World) (R : Value → World → Prop) : syndrome_added p0 l0 c0 w R = fnP Tryz.prog Tryz.f120 (.s .o (.s .o (.s (.s .o (.b (.l [(3, .one .str), (8, .one (.int .i64))] .o))) .o))) [.slice p0 l0 c0] w R := by kernel_rfl
theorem syndrome_added_calls {p0 : Option Addr} {l0 c0 : Nat} {w : World} {R : Value → World → Prop} (h : syndrome_added p0 l0 c0 w R) : Calls Tryz.prog 120 #[.slice p0 l0 c0] w fun e w1 => ∃ v, e = .returned v ∧ R v w1 := fnP_calls callable Tryz.func120 (syndrome_added_eq p0 l0 c0 w R ▸ h)

/-- revetment/syndrome.powers -/
def syndrome_powers (w : World) (R : Value → World → Prop) : Prop :=
  R (.func (.func 141) #[] #[]) w
theorem syndrome_powers_eq (w : World) (R : Value → World → Prop) : syndrome_powers w R = fnP Tryz.prog Tryz.f121 .o [] w R := by kernel_rfl
theorem syndrome_powers_calls {w : World} {R : Value → World → Prop} (h : syndrome_powers w R) : Calls Tryz.prog 121 #[] w fun e w1 => ∃ v, e = .returned v ∧ R v w1 := fnP_calls callable Tryz.func121 (syndrome_powers_eq w R ▸ h)

/-- revetment/gf.Times -/
def gf_Times (s0 : ByteArray) (n1 : Int) (w : World) (R : Value → World → Prop) : Prop :=
  Calls Tryz.prog 143 #[] w fun e w1 => ∃ p8 : Option Addr, e = .returned (.pointer p8) ∧
  ∃ (p12 : Option Addr) (l12 c12 : Nat), ∃ w2, (Instr.makeSlice 92 (.int .i64 (s0.size : Int)) (.int .i64 (s0.size : Int))).run Tryz.prog w1 = .ok (.slice p12 l12 c12) w2 ∧
  LoopP (fun I => I [.int .i64 0] w2) fun K vs w3 => ∃ n15 : Int, vs = [.int .i64 n15] ∧
  ((decide (n15 < (l12 : Int))) = true →
  ∃ n23 : Int, ∃ w4, (Instr.index 9 (.string s0) (.int .i64 n15)).run Tryz.prog w3 = .ok (.int .u8 n23) w4 ∧
  Calls Tryz.prog 144 #[.pointer p8, .int .u8 n23, .int .u8 n1] w4 fun e_1 w5 => ∃ n25 : Int, e_1 = .returned (.int .u8 n25) ∧
  ∃ a26 : Addr, p12 = some a26 ∧ (0 : Int) ≤ n15 ∧ n15 < (l12 : Int) ∧
  St (Addr.add a26 (n15.toNat * 1)) (.int .u8 n25) w5 fun w6 =>
  K [.int .i64 (IntKind.i64.wrap (n15 + 1))] w6) ∧
  ((decide (n15 < (l12 : Int))) = false →
  ∃ s29 : ByteArray, ∃ w7, (convert 92 9 (.slice p12 l12 c12)).run Tryz.prog w3 = .ok (.string s29) w7 ∧
  R (.string s29) w7)
theorem gf_Times_eq (s0 : ByteArray) (n1 : Int) (w : World) (R : Value → World → Prop) : gf_Times s0 n1 w R = fnP Tryz.prog Tryz.f122 (.s .o (.s .o (.s .o (.s (.s .o (.b (.l [(15, .one (.int .i64))] .o))) .o)))) [.string s0, .int .u8 n1] w R := by kernel_rfl
theorem gf_Times_calls {s0 : ByteArray} {n1 : Int} {w : World} {R : Value → World → Prop} (h : gf_Times s0 n1 w R) : Calls Tryz.prog 122 #[.string s0, .int .u8 n1] w fun e w1 => ∃ v, e = .returned v ∧ R v w1 := fnP_calls callable Tryz.func122 (gf_Times_eq s0 n1 w R ▸ h)

/-- revetment/syndrome.Sum -/
def syndrome_Sum (p0 : Option Addr) (l0 c0 : Nat) (w : World) (R : Value → World → Prop) : Prop :=
  ((decide ((l0 : Int) < 2)) = true →
  R (.tuple #[.string (ByteArray.mk #[]), .string (ByteArray.mk #[])]) w) ∧
  ((decide ((l0 : Int) < 2)) = false →
  ∃ D : World → Prop, D w.drew ∧
  ∃ (p13 : Option Addr) (l13 c13 : Nat), (∀ w, D w → (Instr.sliceAt 22 (.slice p0 l0 c0) none (some (.int .i64 (IntKind.i64.wrap ((l0 : Int) - 2)))) none).run Tryz.prog w = .ok (.slice p13 l13 c13) w) ∧
  ∃ (p18 : Option Addr) (l18 c18 : Nat), (∀ w, D w → (Instr.sliceAt 22 (.slice p0 l0 c0) (some (.int .i64 (IntKind.i64.wrap ((l0 : Int) - 2)))) none none).run Tryz.prog w = .ok (.slice p18 l18 c18) w) ∧
  ∃ D_1 : World → Prop, D_1 w.drew.drew ∧
  Calls Tryz.prog 89 #[.slice p13 l13 c13] w.drew.drew fun e w1 => ∃ s20 : ByteArray, e = .returned (.string s20) ∧
  D_1 w1 ∧
  ∃ a22 : Addr, p18 = some a22 ∧ (0 : Int) ≤ 0 ∧ 0 < (l18 : Int) ∧
  ∃ s23 : ByteArray, (∀ w, D_1 w → w.cell? a22 = some (.string s23)) ∧
  Alloc #[.string s20, .string s23] 9 w1 fun k24 w2 =>
  D_1 w2 ∧
  Calls Tryz.prog 120 #[.slice (some ⟨k24, 0, none⟩) 2 2] w2 fun e_1 w3 => ∃ s25 : ByteArray, e_1 = .returned (.string s25) ∧
  D_1 w3 ∧
  Calls Tryz.prog 90 #[.slice p13 l13 c13] w3 fun e_2 w4 => ∃ s27 : ByteArray, e_2 = .returned (.string s27) ∧
  D_1 w4 ∧
  ∃ a29 : Addr, p18 = some a29 ∧ (0 : Int) ≤ 1 ∧ 1 < (l18 : Int) ∧
  ∃ s30 : ByteArray, (∀ w, D_1 w → w.cell? (a29.add 1) = some (.string s30)) ∧
  Alloc #[.string s27, .string s30] 9 w4 fun k31 w5 =>
  D_1 w5 ∧
  Calls Tryz.prog 120 #[.slice (some ⟨k31, 0, none⟩) 2 2] w5 fun e_3 w6 => ∃ s32 : ByteArray, e_3 = .returned (.string s32) ∧
  D_1 w6 ∧
  R (.tuple #[.string s25, .string s32]) w6)
theorem syndrome_Sum_eq (p0 : Option Addr) (l0 c0 : Nat) (w : World) (R : Value → World → Prop) : syndrome_Sum p0 l0 c0 w R = fnP Tryz.prog Tryz.f123 .o [.slice p0 l0 c0] w R := by kernel_rfl
theorem syndrome_Sum_calls {p0 : Option Addr} {l0 c0 : Nat} {w : World} {R : Value → World → Prop} (h : syndrome_Sum p0 l0 c0 w R) : Calls Tryz.prog 123 #[.slice p0 l0 c0] w fun e w1 => ∃ v, e = .returned v ∧ R v w1 := fnP_calls callable Tryz.func123 (syndrome_Sum_eq p0 l0 c0 w R ▸ h)

/-- revetment/gf.Inv -/
def gf_Inv (n0 : Int) (w : World) (R : Value → World → Prop) : Prop :=
  ((n0 == 0) = true →
  R (.tuple #[.int .u8 0, .bool false]) w) ∧
  ((n0 == 0) = false →
  Calls Tryz.prog 143 #[] w fun e w1 => ∃ p7 : Option Addr, e = .returned (.pointer p7) ∧
  ∃ D : World → Prop, D w1.drew ∧
  ∃ a11 : Addr, p7 = some a11 ∧
  (0 : Int) ≤ n0 ∧ n0 < (256 : Int) ∧
  ∃ n14 : Int, (∀ w, D w → w.cell? (Addr.add (a11.add 514) (n0.toNat * 1)) = some (.int .i64 n14)) ∧
  Calls Tryz.prog 145 #[.pointer p7, .int .i64 (IntKind.i64.wrap (0 - n14))] w1.drew fun e_1 w2 => ∃ n16 : Int, e_1 = .returned (.int .u8 n16) ∧
  D w2 ∧
  ∃ a18 : Addr, p7 = some a18 ∧
  Calls Tryz.prog 146 #[.pointer (some (a18.add 3))] w2 fun e_2 w3 => ∃ n20 : Int, e_2 = .returned (.int .i32 n20) ∧
  D w3 ∧
  R (.tuple #[.int .u8 n16, .bool (n20 == 1)]) w3)
theorem gf_Inv_eq (n0 : Int) (w : World) (R : Value → World → Prop) : gf_Inv n0 w R = fnP Tryz.prog Tryz.f124 .o [.int .u8 n0] w R := by kernel_rfl
theorem gf_Inv_calls {n0 : Int} {w : World} {R : Value → World → Prop} (h : gf_Inv n0 w R) : Calls Tryz.prog 124 #[.int .u8 n0] w fun e w1 => ∃ v, e = .returned v ∧ R v w1 := fnP_calls callable Tryz.func124 (gf_Inv_eq n0 w R ▸ h)

/-- revetment/gf.Exp -/
def gf_Exp (n0 : Int) (w : World) (R : Value → World → Prop) : Prop :=
  Calls Tryz.prog 143 #[] w fun e w1 => ∃ p3 : Option Addr, e = .returned (.pointer p3) ∧
  Calls Tryz.prog 145 #[.pointer p3, .int .i64 n0] w1 fun e_1 w2 => ∃ n5 : Int, e_1 = .returned (.int .u8 n5) ∧
  R (.int .u8 n5) w2
theorem gf_Exp_eq (n0 : Int) (w : World) (R : Value → World → Prop) : gf_Exp n0 w R = fnP Tryz.prog Tryz.f125 .o [.int .i64 n0] w R := by kernel_rfl
theorem gf_Exp_calls {n0 : Int} {w : World} {R : Value → World → Prop} (h : gf_Exp n0 w R) : Calls Tryz.prog 125 #[.int .i64 n0] w fun e w1 => ∃ v, e = .returned v ∧ R v w1 := fnP_calls callable Tryz.func125 (gf_Exp_eq n0 w R ▸ h)

/-- revetment/gf.Xor -/
def gf_Xor (s0 : ByteArray) (s1 : ByteArray) (w : World) (R : Value → World → Prop) : Prop :=
  Join (fun vs w1 => ∃ s0_1 : ByteArray, ∃ s1_1 : ByteArray, vs = [.string s0_1, .string s1_1] ∧
  ∃ (p15 : Option Addr) (l15 c15 : Nat), ∃ w2, (convert 9 92 (.string s0_1)).run Tryz.prog w1 = .ok (.slice p15 l15 c15) w2 ∧
  LoopP (fun I => I [.int .i64 0] w2) fun K vs_1 w3 => ∃ n18 : Int, vs_1 = [.int .i64 n18] ∧
  ((decide (n18 < (s1_1.size : Int))) = true →
  ∃ D : World → Prop, D w3.drew ∧
  ∃ a23 : Addr, p15 = some a23 ∧ (0 : Int) ≤ n18 ∧ n18 < (l15 : Int) ∧
  ∃ n24 : Int, (∀ w, D w → w.cell? (Addr.add a23 (n18.toNat * 1)) = some (.int .u8 n24)) ∧
  ∃ n27 : Int, (∀ w, D w → (Instr.index 9 (.string s1_1) (.int .i64 n18)).run Tryz.prog w = .ok (.int .u8 n27) w) ∧
  ∃ a29 : Addr, p15 = some a29 ∧ (0 : Int) ≤ n18 ∧ n18 < (l15 : Int) ∧
  St (Addr.add a29 (n18.toNat * 1)) (.int .u8 (bits2 .xor .u8 n24 n27)) w3.drew fun w4 =>
  K [.int .i64 (IntKind.i64.wrap (n18 + 1))] w4) ∧
  ((decide (n18 < (s1_1.size : Int))) = false →
  ∃ s32 : ByteArray, ∃ w5, (convert 92 9 (.slice p15 l15 c15)).run Tryz.prog w3 = .ok (.string s32) w5 ∧
  R (.string s32) w5)) fun J =>
  ((decide ((s0.size : Int) < (s1.size : Int))) = true →
  J [.string s1, .string s0] w) ∧
  ((decide ((s0.size : Int) < (s1.size : Int))) = false →
  J [.string s0, .string s1] w)
theorem gf_Xor_eq (s0 : ByteArray) (s1 : ByteArray) (w : World) (R : Value → World → Prop) : gf_Xor s0 s1 w R = fnP Tryz.prog Tryz.f126 (.s .o (.j [(0, .one .str), (1, .one .str)] .o (.s .o (.s (.s .o (.b (.l [(18, .one (.int .i64))] .o))) .o)))) [.string s0, .string s1] w R := by kernel_rfl
theorem gf_Xor_calls {s0 : ByteArray} {s1 : ByteArray} {w : World} {R : Value → World → Prop} (h : gf_Xor s0 s1 w R) : Calls Tryz.prog 126 #[.string s0, .string s1] w fun e w1 => ∃ v, e = .returned v ∧ R v w1 := fnP_calls callable Tryz.func126 (gf_Xor_eq s0 s1 w R ▸ h)

/-- revetment/syndrome.powers$1 -/
def syndrome_powers_1 (v0 : Value) (w : World) (R : Value → World → Prop) : Prop :=
  LoopP (fun I => I [.int .u8 1] w) fun K vs w1 => ∃ n2 : Int, vs = [.int .u8 n2] ∧
  CallF Tryz.prog v0 [.int .u8 n2] w1 fun e w2 => ∃ b5 : Bool, e = .returned (.bool b5) ∧
  (b5 = true →
  Calls Tryz.prog 142 #[.int .u8 n2, .int .u8 2] w2 fun e_1 w3 => ∃ n7 : Int, e_1 = .returned (.int .u8 n7) ∧
  K [.int .u8 n7] w3) ∧
  (b5 = false →
  R (.tuple #[]) w2)
theorem syndrome_powers_1_eq (v0 : Value) (w : World) (R : Value → World → Prop) : syndrome_powers_1 v0 w R = fnP Tryz.prog Tryz.f141 (.s .o (.b (.l [(2, .one (.int .u8))] .o))) [v0] w R := by kernel_rfl
theorem syndrome_powers_1_calls {v0 : Value} {w : World} {R : Value → World → Prop} (h : syndrome_powers_1 v0 w R) : Calls Tryz.prog 141 #[v0] w fun e w1 => ∃ v, e = .returned v ∧ R v w1 := fnP_calls callable Tryz.func141 (syndrome_powers_1_eq v0 w R ▸ h)

/-- revetment/gf.Mul -/
def gf_Mul (n0 : Int) (n1 : Int) (w : World) (R : Value → World → Prop) : Prop :=
  LoopP (fun I => I [.int .u8 n0, .int .u8 n1, .int .u8 0] w) fun K vs w1 => ∃ n0_1 : Int, ∃ n1_1 : Int, ∃ n5 : Int, vs = [.int .u8 n0_1, .int .u8 n1_1, .int .u8 n5] ∧
  ((decide (n1_1 > 0)) = true →
  Join (fun vs_1 w2 => ∃ n5_1 : Int, vs_1 = [.int .u8 n5_1] ∧
  (((Int.fdiv n0_1 (2 ^ 7)) == 1) = true →
  K [.int .u8 (bits2 .xor .u8 (IntKind.u8.wrap (n0_1 * 2 ^ 1)) 29), .int .u8 (Int.fdiv n1_1 (2 ^ 1)), .int .u8 n5_1] w2) ∧
  (((Int.fdiv n0_1 (2 ^ 7)) == 1) = false →
  K [.int .u8 (IntKind.u8.wrap (n0_1 * 2 ^ 1)), .int .u8 (Int.fdiv n1_1 (2 ^ 1)), .int .u8 n5_1] w2)) fun J =>
  (((bits2 .and .u8 n1_1 1) == 1) = true →
  J [.int .u8 (bits2 .xor .u8 n5 n0_1)] w1) ∧
  (((bits2 .and .u8 n1_1 1) == 1) = false →
  J [.int .u8 n5] w1)) ∧
  ((decide (n1_1 > 0)) = false →
  R (.int .u8 n5) w1)
theorem gf_Mul_eq (n0 : Int) (n1 : Int) (w : World) (R : Value → World → Prop) : gf_Mul n0 n1 w R = fnP Tryz.prog Tryz.f142 (.s .o (.s .o (.s (.b (.l [(0, .one (.int .u8)), (1, .one (.int .u8)), (5, .one (.int .u8))] (.s .o (.s (.b (.j [(5, .one (.int .u8))] .o .o)) .o)))) .o))) [.int .u8 n0, .int .u8 n1] w R := by kernel_rfl
theorem gf_Mul_calls {n0 : Int} {n1 : Int} {w : World} {R : Value → World → Prop} (h : gf_Mul n0 n1 w R) : Calls Tryz.prog 142 #[.int .u8 n0, .int .u8 n1] w fun e w1 => ∃ v, e = .returned v ∧ R v w1 := fnP_calls callable Tryz.func142 (gf_Mul_eq n0 n1 w R ▸ h)

/-- revetment/gf.fresh -/
def gf_fresh (w : World) (R : Value → World → Prop) : Prop :=
  Alloc ((zc Tryz.prog 197).getD #[]) 197 w fun k1 w1 =>
  Calls Tryz.prog 160 #[.pointer (some ⟨k1, 0, none⟩)] w1 fun e w2 => ∃ p2 : Option Addr, e = .returned (.pointer p2) ∧
  R (.pointer p2) w2
theorem gf_fresh_eq (w : World) (R : Value → World → Prop) : gf_fresh w R = fnP Tryz.prog Tryz.f143 .o [] w R := by kernel_rfl
theorem gf_fresh_calls {w : World} {R : Value → World → Prop} (h : gf_fresh w R) : Calls Tryz.prog 143 #[] w fun e w1 => ∃ v, e = .returned v ∧ R v w1 := fnP_calls callable Tryz.func143 (gf_fresh_eq w R ▸ h)

/-- (*revetment/gf.tables).mul -/
def gf_tables_mul (p0 : Option Addr) (n1 : Int) (n2 : Int) (w : World) (R : Value → World → Prop) : Prop :=
  ((n1 == 0) = true →
  R (.int .u8 0) w) ∧
  ((n1 == 0) = false →
  ((n2 == 0) = true →
  R (.int .u8 0) w) ∧
  ((n2 == 0) = false →
  ∃ D : World → Prop, D w.drew ∧
  ∃ a16 : Addr, p0 = some a16 ∧
  (0 : Int) ≤ n1 ∧ n1 < (256 : Int) ∧
  ∃ n19 : Int, (∀ w, D w → w.cell? (Addr.add (a16.add 514) (n1.toNat * 1)) = some (.int .i64 n19)) ∧
  ∃ a22 : Addr, p0 = some a22 ∧
  (0 : Int) ≤ n2 ∧ n2 < (256 : Int) ∧
  ∃ n25 : Int, (∀ w, D w → w.cell? (Addr.add (a22.add 514) (n2.toNat * 1)) = some (.int .i64 n25)) ∧
  ∃ a27 : Addr, p0 = some a27 ∧
  (0 : Int) ≤ (IntKind.i64.wrap (n19 + n25)) ∧ (IntKind.i64.wrap (n19 + n25)) < (510 : Int) ∧
  ∃ n30 : Int, (∀ w, D w → w.cell? (Addr.add (a27.add 4) ((IntKind.i64.wrap (n19 + n25)).toNat * 1)) = some (.int .u8 n30)) ∧
  R (.int .u8 n30) w.drew))
theorem gf_tables_mul_eq (p0 : Option Addr) (n1 : Int) (n2 : Int) (w : World) (R : Value → World → Prop) : gf_tables_mul p0 n1 n2 w R = fnP Tryz.prog Tryz.f144 .o [.pointer p0, .int .u8 n1, .int .u8 n2] w R := by kernel_rfl
theorem gf_tables_mul_calls {p0 : Option Addr} {n1 : Int} {n2 : Int} {w : World} {R : Value → World → Prop} (h : gf_tables_mul p0 n1 n2 w R) : Calls Tryz.prog 144 #[.pointer p0, .int .u8 n1, .int .u8 n2] w fun e w1 => ∃ v, e = .returned v ∧ R v w1 := fnP_calls callable Tryz.func144 (gf_tables_mul_eq p0 n1 n2 w R ▸ h)

/-- (*revetment/gf.tables).power -/
def gf_tables_power (p0 : Option Addr) (n1 : Int) (w : World) (R : Value → World → Prop) : Prop :=
  ∃ a10 : Addr, p0 = some a10 ∧
  (0 : Int) ≤ (Int.tmod (IntKind.i64.wrap ((Int.tmod n1 255) + 255)) 255) ∧ (Int.tmod (IntKind.i64.wrap ((Int.tmod n1 255) + 255)) 255) < (510 : Int) ∧
  ∃ n13 : Int, w.cell? (Addr.add (a10.add 4) ((Int.tmod (IntKind.i64.wrap ((Int.tmod n1 255) + 255)) 255).toNat * 1)) = some (.int .u8 n13) ∧
  R (.int .u8 n13) w
theorem gf_tables_power_eq (p0 : Option Addr) (n1 : Int) (w : World) (R : Value → World → Prop) : gf_tables_power p0 n1 w R = fnP Tryz.prog Tryz.f145 .o [.pointer p0, .int .i64 n1] w R := by kernel_rfl
theorem gf_tables_power_calls {p0 : Option Addr} {n1 : Int} {w : World} {R : Value → World → Prop} (h : gf_tables_power p0 n1 w R) : Calls Tryz.prog 145 #[.pointer p0, .int .i64 n1] w fun e w1 => ∃ v, e = .returned v ∧ R v w1 := fnP_calls callable Tryz.func145 (gf_tables_power_eq p0 n1 w R ▸ h)

/-- (*revetment/gf.tables).ready -/
def gf_tables_ready (p0 : Option Addr) (w : World) (R : Value → World → Prop) : Prop :=
  ∃ a4 : Addr, p0 = some a4 ∧
  Calls Tryz.prog 168 #[.pointer (some a4), .func (.func 169) #[.pointer p0] #[]] w fun e w1 => e = .returned (.tuple #[]) ∧
  R (.pointer p0) w1
theorem gf_tables_ready_eq (p0 : Option Addr) (w : World) (R : Value → World → Prop) : gf_tables_ready p0 w R = fnP Tryz.prog Tryz.f160 .o [.pointer p0] w R := by kernel_rfl
theorem gf_tables_ready_calls {p0 : Option Addr} {w : World} {R : Value → World → Prop} (h : gf_tables_ready p0 w R) : Calls Tryz.prog 160 #[.pointer p0] w fun e w1 => ∃ v, e = .returned v ∧ R v w1 := fnP_calls callable Tryz.func160 (gf_tables_ready_eq p0 w R ▸ h)

/-- (*revetment/gf.tables).make -/
def gf_tables_make (p0 : Option Addr) (w : World) (R : Value → World → Prop) : Prop :=
  ∃ a5 : Addr, p0 = some a5 ∧
  Calls Tryz.prog 173 #[.pointer (some (a5.add 3)), .int .i32 1] w fun e w1 => ∃ n7 : Int, e = .returned (.int .i32 n7) ∧
  LoopP (fun I => I [.int .i64 1, .int .i64 0] w1) fun K vs w2 => ∃ n2 : Int, ∃ n8 : Int, vs = [.int .i64 n2, .int .i64 n8] ∧
  ((decide (n8 < 255)) = true →
  ∃ D : World → Prop, D w2.drew ∧
  ∃ a20 : Addr, p0 = some a20 ∧
  (0 : Int) ≤ n8 ∧ n8 < (510 : Int) ∧
  St (Addr.add (a20.add 4) (n8.toNat * 1)) (.int .u8 (IntKind.u8.wrap n2)) w2.drew fun w3 =>
  D w3 ∧
  ∃ a23 : Addr, p0 = some a23 ∧
  (0 : Int) ≤ (IntKind.i64.wrap (n8 + 255)) ∧ (IntKind.i64.wrap (n8 + 255)) < (510 : Int) ∧
  St (Addr.add (a23.add 4) ((IntKind.i64.wrap (n8 + 255)).toNat * 1)) (.int .u8 (IntKind.u8.wrap n2)) w3 fun w4 =>
  ∃ a29 : Addr, p0 = some a29 ∧
  (0 : Int) ≤ n2 ∧ n2 < (256 : Int) ∧
  St (Addr.add (a29.add 514) (n2.toNat * 1)) (.int .i64 n8) w4 fun w5 =>
  ((decide ((IntKind.i64.wrap (n2 * 2 ^ 1)) > 255)) = true →
  K [.int .i64 (bits2 .xor .i64 (IntKind.i64.wrap (n2 * 2 ^ 1)) 285), .int .i64 (IntKind.i64.wrap (n8 + 1))] w5) ∧
  ((decide ((IntKind.i64.wrap (n2 * 2 ^ 1)) > 255)) = false →
  K [.int .i64 (IntKind.i64.wrap (n2 * 2 ^ 1)), .int .i64 (IntKind.i64.wrap (n8 + 1))] w5)) ∧
  ((decide (n8 < 255)) = false →
  R (.tuple #[]) w2)
theorem gf_tables_make_eq (p0 : Option Addr) (w : World) (R : Value → World → Prop) : gf_tables_make p0 w R = fnP Tryz.prog Tryz.f169 (.s .o (.s .o (.s .o (.b (.l [(2, .one (.int .i64)), (8, .one (.int .i64))] .o))))) [.pointer p0] w R := by kernel_rfl
theorem gf_tables_make_calls {p0 : Option Addr} {w : World} {R : Value → World → Prop} (h : gf_tables_make p0 w R) : Calls Tryz.prog 169 #[.pointer p0] w fun e w1 => ∃ v, e = .returned v ∧ R v w1 := fnP_calls callable Tryz.func169 (gf_tables_make_eq p0 w R ▸ h)

end Go.Proofs.YtedbbdeeofdepaaGreat
