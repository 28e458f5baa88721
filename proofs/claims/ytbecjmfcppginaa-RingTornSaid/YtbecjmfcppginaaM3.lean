import Derived.Test.YtbecjmfcppginaaM2
/-! The formulas of Go functions, printed by a program of this session (shprint.py), each tied to the loaded function by the kernel. -/
namespace Go.Proofs.Ytbecjmfcppginaa
open Go.Sh
set_option linter.unusedVariables false
set_option maxRecDepth 100000
/-- revetment/revetmentlaw13.RingEmpty -/
def revetmentlaw13_RingEmpty (p0 : Option Addr) (l0 c0 : Nat) (p1 : Option Addr) (l1 c1 : Nat) (w : World) (R : Value → World → Prop) : Prop :=
  Calls Try.prog 7 #[.slice p1 l1 c1] w fun e w1 => ∃ b16 : Bool, e = .returned (.bool b16) ∧
  (b16 = true →
  Calls Try.prog 8 #[] w1 fun e_1 w2 => ∃ b31 : Bool, e_1 = .returned (.bool b31) ∧
  R (.bool b31) w2) ∧
  (b16 = false →
  (((l1 : Int) == 0) = true →
  Calls Try.prog 8 #[] w1 fun e_2 w3 => ∃ b31_1 : Bool, e_2 = .returned (.bool b31_1) ∧
  R (.bool b31_1) w3) ∧
  (((l1 : Int) == 0) = false →
  ((decide ((l0 : Int) > 5)) = true →
  Calls Try.prog 8 #[] w1 fun e_3 w4 => ∃ b31_2 : Bool, e_3 = .returned (.bool b31_2) ∧
  R (.bool b31_2) w4) ∧
  ((decide ((l0 : Int) > 5)) = false →
  Calls Try.prog 8 #[] w1 fun e_4 w5 => ∃ b28 : Bool, e_4 = .returned (.bool b28) ∧
  ((!b28) = true →
  Calls Try.prog 8 #[] w5 fun e_5 w6 => ∃ b31_3 : Bool, e_5 = .returned (.bool b31_3) ∧
  R (.bool b31_3) w6) ∧
  ((!b28) = false →
  Calls Try.prog 9 #[.int .i64 209] w5 fun e_6 w7 => ∃ p32 : Option Addr, e_6 = .returned (.pointer p32) ∧
  ((Option.isNone p32) = true →
  R (.bool false) w7) ∧
  ((Option.isNone p32) = false →
  Calls Try.prog 10 #[.pointer p32] w7 fun e_7 w8 => ∃ n37 : Int, e_7 = .returned (.int .i64 n37) ∧
  ((n37 != 0) = true →
  R (.bool false) w8) ∧
  ((n37 != 0) = false →
  Calls Try.prog 11 #[.pointer p32] w8 fun e_8 w9 => ∃ p42_0 : Option Addr, ∃ (p42_1 : Option Addr) (l42_1 c42_1 : Nat), ∃ n42_2 : Int, e_8 = .returned (.tuple #[.pointer p42_0, .slice p42_1 l42_1 c42_1, .int .i64 n42_2]) ∧
  ((n42_2 != 0) = true →
  R (.bool false) w9) ∧
  ((n42_2 != 0) = false →
  ((Option.isNone p42_0) = true →
  R (.bool false) w9) ∧
  ((Option.isNone p42_0) = false →
  LoopP (fun I => I [.int .i64 0] w9) fun K vs w10 => ∃ n9 : Int, vs = [.int .i64 n9] ∧
  ((decide (n9 < (l0 : Int))) = true →
  ∃ D : World → Prop, D w10.drew ∧
  ∃ a62 : Addr, p0 = some a62 ∧ (0 : Int) ≤ n9 ∧ n9 < (l0 : Int) ∧
  ∃ n63 : Int, (∀ w, D w → w.cell? (Addr.add a62 (n9.toNat * 1)) = some (.int .u8 n63)) ∧
  Calls Try.prog 13 #[.slice p1 l1 c1] w10.drew fun e_9 w11 => ∃ (p66 : Option Addr) (l66 c66 : Nat), e_9 = .returned (.slice p66 l66 c66) ∧
  D w11 ∧
  Calls Try.prog 12 #[.pointer p42_0, .int .i64 (IntKind.i64.wrap n63), .slice p66 l66 c66] w11 fun e_10 w12 => ∃ n67_0 : Int, ∃ n67_1 : Int, e_10 = .returned (.tuple #[.int .u64 n67_0, .int .i64 n67_1]) ∧
  D w12 ∧
  ((n67_1 != 0) = true →
  R (.bool false) w12) ∧
  ((n67_1 != 0) = false →
  K [.int .i64 (IntKind.i64.wrap (n9 + 1))] w12)) ∧
  ((decide (n9 < (l0 : Int))) = false →
  Calls Try.prog 10 #[.pointer p32] w10 fun e_11 w13 => ∃ n73 : Int, e_11 = .returned (.int .i64 n73) ∧
  ((n73 != 0) = true →
  R (.bool false) w13) ∧
  ((n73 != 0) = false →
  Calls Try.prog 11 #[.pointer p32] w13 fun e_12 w14 => ∃ p77_0 : Option Addr, ∃ (p77_1 : Option Addr) (l77_1 c77_1 : Nat), ∃ n77_2 : Int, e_12 = .returned (.tuple #[.pointer p77_0, .slice p77_1 l77_1 c77_1, .int .i64 n77_2]) ∧
  ((n77_2 == 0) = true →
  ((!(Option.isNone p77_0)) = true →
  (((l77_1 : Int) == 0) = true →
  Calls Try.prog 14 #[.pointer p77_0] w14 fun e_13 w15 => ∃ n94 : Int, e_13 = .returned (.int .u64 n94) ∧
  ((n94 == 1) = true →
  Calls Try.prog 15 #[.pointer p77_0] w15 fun e_14 w16 => ∃ n99 : Int, e_14 = .returned (.int .i64 n99) ∧
  ((n99 == 5) = true →
  Calls Try.prog 16 #[.int .i64 209] w16 fun e_15 w17 => ∃ n103 : Int, e_15 = .returned (.int .i64 n103) ∧
  ((n103 == 5) = true →
  Calls Try.prog 16 #[.int .i64 208] w17 fun e_16 w18 => ∃ n107 : Int, e_16 = .returned (.int .i64 n107) ∧
  R (.bool (n107 == 4)) w18) ∧
  ((n103 == 5) = false →
  R (.bool false) w17)) ∧
  ((n99 == 5) = false →
  R (.bool false) w16)) ∧
  ((n94 == 1) = false →
  R (.bool false) w15)) ∧
  (((l77_1 : Int) == 0) = false →
  R (.bool false) w14)) ∧
  ((!(Option.isNone p77_0)) = false →
  R (.bool false) w14)) ∧
  ((n77_2 == 0) = false →
  R (.bool false) w14)))))))))))
theorem revetmentlaw13_RingEmpty_eq (p0 : Option Addr) (l0 c0 : Nat) (p1 : Option Addr) (l1 c1 : Nat) (w : World) (R : Value → World → Prop) : revetmentlaw13_RingEmpty p0 l0 c0 p1 l1 c1 w R = fnP Try.prog Try.f3 (.s .o (.s .o (.s .o (.s .o (.s .o (.s .o (.s (.s .o (.b (.l [(9, .one (.int .i64))] .o))) .o))))))) [.slice p0 l0 c0, .slice p1 l1 c1] w R := by kernel_rfl
theorem revetmentlaw13_RingEmpty_calls {p0 : Option Addr} {l0 c0 : Nat} {p1 : Option Addr} {l1 c1 : Nat} {w : World} {R : Value → World → Prop} (h : revetmentlaw13_RingEmpty p0 l0 c0 p1 l1 c1 w R) : Calls Try.prog 3 #[.slice p0 l0 c0, .slice p1 l1 c1] w fun e w1 => ∃ v, e = .returned v ∧ R v w1 := fnP_calls callable Try.func3 (revetmentlaw13_RingEmpty_eq p0 l0 c0 p1 l1 c1 w R ▸ h)

/-- revetment/revetmentlaw13.RingTorn -/
def revetmentlaw13_RingTorn (p0 : Option Addr) (l0 c0 : Nat) (p1 : Option Addr) (l1 c1 : Nat) (p2 : Option Addr) (l2 c2 : Nat) (p3 : Option Addr) (l3 c3 : Nat) (w : World) (R : Value → World → Prop) : Prop :=
  Calls Try.prog 7 #[.slice p1 l1 c1] w fun e w1 => ∃ b26 : Bool, e = .returned (.bool b26) ∧
  (b26 = true →
  Calls Try.prog 8 #[] w1 fun e_1 w2 => ∃ b55 : Bool, e_1 = .returned (.bool b55) ∧
  R (.bool b55) w2) ∧
  (b26 = false →
  Calls Try.prog 7 #[.slice p2 l2 c2] w1 fun e_2 w3 => ∃ b29 : Bool, e_2 = .returned (.bool b29) ∧
  (b29 = true →
  Calls Try.prog 8 #[] w3 fun e_3 w4 => ∃ b55_1 : Bool, e_3 = .returned (.bool b55_1) ∧
  R (.bool b55_1) w4) ∧
  (b29 = false →
  (((l1 : Int) == 0) = true →
  Calls Try.prog 8 #[] w3 fun e_4 w5 => ∃ b55_2 : Bool, e_4 = .returned (.bool b55_2) ∧
  R (.bool b55_2) w5) ∧
  (((l1 : Int) == 0) = false →
  (((l2 : Int) == 0) = true →
  Calls Try.prog 8 #[] w3 fun e_5 w6 => ∃ b55_3 : Bool, e_5 = .returned (.bool b55_3) ∧
  R (.bool b55_3) w6) ∧
  (((l2 : Int) == 0) = false →
  ((decide ((l0 : Int) > 4)) = true →
  Calls Try.prog 8 #[] w3 fun e_6 w7 => ∃ b55_4 : Bool, e_6 = .returned (.bool b55_4) ∧
  R (.bool b55_4) w7) ∧
  ((decide ((l0 : Int) > 4)) = false →
  ((decide ((l3 : Int) > 50)) = true →
  Calls Try.prog 8 #[] w3 fun e_7 w8 => ∃ b55_5 : Bool, e_7 = .returned (.bool b55_5) ∧
  R (.bool b55_5) w8) ∧
  ((decide ((l3 : Int) > 50)) = false →
  Calls Try.prog 8 #[] w3 fun e_8 w9 => ∃ b52 : Bool, e_8 = .returned (.bool b52) ∧
  ((!b52) = true →
  Calls Try.prog 8 #[] w9 fun e_9 w10 => ∃ b55_6 : Bool, e_9 = .returned (.bool b55_6) ∧
  R (.bool b55_6) w10) ∧
  ((!b52) = false →
  Calls Try.prog 9 #[.int .i64 209] w9 fun e_10 w11 => ∃ p56 : Option Addr, e_10 = .returned (.pointer p56) ∧
  ((Option.isNone p56) = true →
  R (.bool false) w11) ∧
  ((Option.isNone p56) = false →
  Calls Try.prog 10 #[.pointer p56] w11 fun e_11 w12 => ∃ n61 : Int, e_11 = .returned (.int .i64 n61) ∧
  ((n61 != 0) = true →
  R (.bool false) w12) ∧
  ((n61 != 0) = false →
  Calls Try.prog 11 #[.pointer p56] w12 fun e_12 w13 => ∃ p66_0 : Option Addr, ∃ (p66_1 : Option Addr) (l66_1 c66_1 : Nat), ∃ n66_2 : Int, e_12 = .returned (.tuple #[.pointer p66_0, .slice p66_1 l66_1 c66_1, .int .i64 n66_2]) ∧
  ((n66_2 != 0) = true →
  R (.bool false) w13) ∧
  ((n66_2 != 0) = false →
  ((Option.isNone p66_0) = true →
  R (.bool false) w13) ∧
  ((Option.isNone p66_0) = false →
  LoopP (fun I => I [.int .i64 0] w13) fun K vs w14 => ∃ n13 : Int, vs = [.int .i64 n13] ∧
  ((decide (n13 < (l0 : Int))) = true →
  ∃ D : World → Prop, D w14.drew ∧
  ∃ a86 : Addr, p0 = some a86 ∧ (0 : Int) ≤ n13 ∧ n13 < (l0 : Int) ∧
  ∃ n87 : Int, (∀ w, D w → w.cell? (Addr.add a86 (n13.toNat * 1)) = some (.int .u8 n87)) ∧
  Calls Try.prog 13 #[.slice p1 l1 c1] w14.drew fun e_13 w15 => ∃ (p90 : Option Addr) (l90 c90 : Nat), e_13 = .returned (.slice p90 l90 c90) ∧
  D w15 ∧
  Calls Try.prog 12 #[.pointer p66_0, .int .i64 (IntKind.i64.wrap n87), .slice p90 l90 c90] w15 fun e_14 w16 => ∃ n91_0 : Int, ∃ n91_1 : Int, e_14 = .returned (.tuple #[.int .u64 n91_0, .int .i64 n91_1]) ∧
  D w16 ∧
  ((n91_1 != 0) = true →
  R (.bool false) w16) ∧
  ((n91_1 != 0) = false →
  K [.int .i64 (IntKind.i64.wrap (n13 + 1))] w16)) ∧
  ((decide (n13 < (l0 : Int))) = false →
  Calls Try.prog 13 #[.slice p2 l2 c2] w14 fun e_15 w17 => ∃ (p103 : Option Addr) (l103 c103 : Nat), e_15 = .returned (.slice p103 l103 c103) ∧
  Calls Try.prog 17 #[.agg #[.int .u64 (IntKind.u64.wrap ((IntKind.u64.wrap (l0 : Int)) + 1)), .int .i64 9, .slice p103 l103 c103]] w17 fun e_16 w18 => ∃ s105_0 : ByteArray, ∃ (p105_1 : Option Addr) (l105_1 c105_1 : Nat), ∃ n105_2 : Int, e_16 = .returned (.tuple #[.string s105_0, .slice p105_1 l105_1 c105_1, .int .i64 n105_2]) ∧
  LoopP (fun I_1 => I_1 [.int .i64 0] w18) fun K_1 vs_1 w19 => ∃ n21 : Int, vs_1 = [.int .i64 n21] ∧
  ((decide (n21 < (l105_1 : Int))) = true →
  ∃ a127 : Addr, p105_1 = some a127 ∧ (0 : Int) ≤ n21 ∧ n21 < (l105_1 : Int) ∧
  ∃ s128 : ByteArray, w19.cell? (Addr.add a127 (n21.toNat * 1)) = some (.string s128) ∧
  Calls Try.prog 18 #[.pointer p56, .int .i64 (IntKind.i64.wrap ((IntKind.i64.wrap ((IntKind.i64.wrap (4 + (IntKind.i64.wrap (41 * (IntKind.i64.wrap (Int.tmod (IntKind.u64.wrap ((IntKind.u64.wrap (l0 : Int)) + 1)) 5)))))) + 1)) + n21)), .string s128] w19 fun e_17 w20 => ∃ n129 : Int, e_17 = .returned (.int .i64 n129) ∧
  ((n129 != 0) = true →
  R (.bool false) w20) ∧
  ((n129 != 0) = false →
  K_1 [.int .i64 (IntKind.i64.wrap (n21 + 1))] w20)) ∧
  ((decide (n21 < (l105_1 : Int))) = false →
  ((n105_2 != 0) = true →
  R (.bool false) w19) ∧
  ((n105_2 != 0) = false →
  Calls Try.prog 19 #[.pointer p56] w19 fun e_18 w21 => ∃ n135 : Int, e_18 = .returned (.int .i64 n135) ∧
  ((n135 != 0) = true →
  R (.bool false) w21) ∧
  ((n135 != 0) = false →
  Calls Try.prog 18 #[.pointer p56, .int .i64 (IntKind.i64.wrap (4 + (IntKind.i64.wrap (41 * (IntKind.i64.wrap (Int.tmod (IntKind.u64.wrap ((IntKind.u64.wrap (l0 : Int)) + 1)) 5)))))), .string s105_0] w21 fun e_19 w22 => ∃ n142 : Int, e_19 = .returned (.int .i64 n142) ∧
  ((n142 != 0) = true →
  R (.bool false) w22) ∧
  ((n142 != 0) = false →
  Calls Try.prog 20 #[.pointer p56, .slice p3 l3 c3] w22 fun e_20 w23 => e_20 = .returned (.tuple #[]) ∧
  Calls Try.prog 11 #[.pointer p56] w23 fun e_21 w24 => ∃ p150_0 : Option Addr, ∃ (p150_1 : Option Addr) (l150_1 c150_1 : Nat), ∃ n150_2 : Int, e_21 = .returned (.tuple #[.pointer p150_0, .slice p150_1 l150_1 c150_1, .int .i64 n150_2]) ∧
  ((n150_2 != 0) = true →
  R (.bool false) w24) ∧
  ((n150_2 != 0) = false →
  ((decide ((l150_1 : Int) < (l0 : Int))) = true →
  R (.bool false) w24) ∧
  ((decide ((l150_1 : Int) < (l0 : Int))) = false →
  ((decide ((l150_1 : Int) > (IntKind.i64.wrap ((l0 : Int) + 1)))) = true →
  R (.bool false) w24) ∧
  ((decide ((l150_1 : Int) > (IntKind.i64.wrap ((l0 : Int) + 1)))) = false →
  (((l150_1 : Int) == (l0 : Int)) = true →
  R (.bool true) w24) ∧
  (((l150_1 : Int) == (l0 : Int)) = false →
  ∃ a180 : Addr, p150_1 = some a180 ∧ (0 : Int) ≤ (l0 : Int) ∧ (l0 : Int) < (l150_1 : Int) ∧
  ∃ n182 : Int, w24.cell? (Addr.add (Addr.add a180 ((l0 : Int).toNat * 3)) 1) = some (.int .i64 n182) ∧
  ((n182 == 9) = true →
  ∃ a188 : Addr, p150_1 = some a188 ∧ (0 : Int) ≤ (l0 : Int) ∧ (l0 : Int) < (l150_1 : Int) ∧
  ∃ (p190 : Option Addr) (l190 c190 : Nat), w24.cell? (Addr.add (Addr.add a188 ((l0 : Int).toNat * 3)) 2) = some (.slice p190 l190 c190) ∧
  Calls Try.prog 22 #[.slice p190 l190 c190] w24 fun e_22 w25 => ∃ (p191 : Option Addr) (l191 c191 : Nat), e_22 = .returned (.slice p191 l191 c191) ∧
  Calls Try.prog 13 #[.slice p2 l2 c2] w25 fun e_23 w26 => ∃ (p194 : Option Addr) (l194 c194 : Nat), e_23 = .returned (.slice p194 l194 c194) ∧
  Calls Try.prog 22 #[.slice p194 l194 c194] w26 fun e_24 w27 => ∃ (p195 : Option Addr) (l195 c195 : Nat), e_24 = .returned (.slice p195 l195 c195) ∧
  Calls Try.prog 21 #[.agg #[.int .u64 0, .int .i64 0, .slice p191 l191 c191], .agg #[.int .u64 0, .int .i64 0, .slice p195 l195 c195]] w27 fun e_25 w28 => ∃ b197 : Bool, e_25 = .returned (.bool b197) ∧
  R (.bool b197) w28) ∧
  ((n182 == 9) = false →
  R (.bool false) w24)))))))))))))))))))))
theorem revetmentlaw13_RingTorn_eq (p0 : Option Addr) (l0 c0 : Nat) (p1 : Option Addr) (l1 c1 : Nat) (p2 : Option Addr) (l2 c2 : Nat) (p3 : Option Addr) (l3 c3 : Nat) (w : World) (R : Value → World → Prop) : revetmentlaw13_RingTorn p0 l0 c0 p1 l1 c1 p2 l2 c2 p3 l3 c3 w R = fnP Try.prog Try.f4 (.s .o (.s .o (.s .o (.s .o (.s .o (.s .o (.s (.s .o (.b (.l [(13, .one (.int .i64))] .o))) (.s .o (.s .o (.s .o (.s (.s .o (.b (.l [(21, .one (.int .i64))] .o))) .o))))))))))) [.slice p0 l0 c0, .slice p1 l1 c1, .slice p2 l2 c2, .slice p3 l3 c3] w R := by kernel_rfl
theorem revetmentlaw13_RingTorn_calls {p0 : Option Addr} {l0 c0 : Nat} {p1 : Option Addr} {l1 c1 : Nat} {p2 : Option Addr} {l2 c2 : Nat} {p3 : Option Addr} {l3 c3 : Nat} {w : World} {R : Value → World → Prop} (h : revetmentlaw13_RingTorn p0 l0 c0 p1 l1 c1 p2 l2 c2 p3 l3 c3 w R) : Calls Try.prog 4 #[.slice p0 l0 c0, .slice p1 l1 c1, .slice p2 l2 c2, .slice p3 l3 c3] w fun e w1 => ∃ v, e = .returned v ∧ R v w1 := fnP_calls callable Try.func4 (revetmentlaw13_RingTorn_eq p0 l0 c0 p1 l1 c1 p2 l2 c2 p3 l3 c3 w R ▸ h)

/-- revetment/revetmentlaw13.RingBusy -/
def revetmentlaw13_RingBusy (n0 : Int) (p1 : Option Addr) (l1 c1 : Nat) (n2 : Int) (w : World) (R : Value → World → Prop) : Prop :=
  Calls Try.prog 7 #[.slice p1 l1 c1] w fun e w1 => ∃ b25 : Bool, e = .returned (.bool b25) ∧
  (b25 = true →
  Calls Try.prog 8 #[] w1 fun e_1 w2 => ∃ b35 : Bool, e_1 = .returned (.bool b35) ∧
  R (.bool b35) w2) ∧
  (b25 = false →
  (((l1 : Int) == 0) = true →
  Calls Try.prog 8 #[] w1 fun e_2 w3 => ∃ b35_1 : Bool, e_2 = .returned (.bool b35_1) ∧
  R (.bool b35_1) w3) ∧
  (((l1 : Int) == 0) = false →
  Calls Try.prog 8 #[] w1 fun e_3 w4 => ∃ b32 : Bool, e_3 = .returned (.bool b32) ∧
  ((!b32) = true →
  Calls Try.prog 8 #[] w4 fun e_4 w5 => ∃ b35_2 : Bool, e_4 = .returned (.bool b35_2) ∧
  R (.bool b35_2) w5) ∧
  ((!b32) = false →
  Calls Try.prog 9 #[.int .i64 (IntKind.i64.wrap (4 + (IntKind.i64.wrap (41 * (IntKind.i64.wrap (1 + (Int.tmod (IntKind.i64.wrap n0) 6)))))))] w4 fun e_5 w6 => ∃ p43 : Option Addr, e_5 = .returned (.pointer p43) ∧
  ((Option.isNone p43) = true →
  R (.bool false) w6) ∧
  ((Option.isNone p43) = false →
  Calls Try.prog 10 #[.pointer p43] w6 fun e_6 w7 => ∃ n48 : Int, e_6 = .returned (.int .i64 n48) ∧
  ((n48 != 0) = true →
  R (.bool false) w7) ∧
  ((n48 != 0) = false →
  Calls Try.prog 11 #[.pointer p43] w7 fun e_7 w8 => ∃ p53_0 : Option Addr, ∃ (p53_1 : Option Addr) (l53_1 c53_1 : Nat), ∃ n53_2 : Int, e_7 = .returned (.tuple #[.pointer p53_0, .slice p53_1 l53_1 c53_1, .int .i64 n53_2]) ∧
  ((n53_2 != 0) = true →
  R (.bool false) w8) ∧
  ((n53_2 != 0) = false →
  ((Option.isNone p53_0) = true →
  R (.bool false) w8) ∧
  ((Option.isNone p53_0) = false →
  Calls Try.prog 15 #[.pointer p53_0] w8 fun e_8 w9 => ∃ n65 : Int, e_8 = .returned (.int .i64 n65) ∧
  ((n65 != (IntKind.i64.wrap (1 + (Int.tmod (IntKind.i64.wrap n0) 6)))) = true →
  R (.bool false) w9) ∧
  ((n65 != (IntKind.i64.wrap (1 + (Int.tmod (IntKind.i64.wrap n0) 6)))) = false →
  LoopP (fun I => I [.int .i64 0] w9) fun K vs w10 => ∃ n12 : Int, vs = [.int .i64 n12] ∧
  ((decide (n12 < (IntKind.i64.wrap (1 + (Int.tmod (IntKind.i64.wrap n0) 6))))) = true →
  Calls Try.prog 13 #[.slice p1 l1 c1] w10 fun e_9 w11 => ∃ (p78 : Option Addr) (l78 c78 : Nat), e_9 = .returned (.slice p78 l78 c78) ∧
  Calls Try.prog 12 #[.pointer p53_0, .int .i64 n12, .slice p78 l78 c78] w11 fun e_10 w12 => ∃ n79_0 : Int, ∃ n79_1 : Int, e_10 = .returned (.tuple #[.int .u64 n79_0, .int .i64 n79_1]) ∧
  ((n79_1 != 0) = true →
  R (.bool false) w12) ∧
  ((n79_1 != 0) = false →
  Calls Try.prog 15 #[.pointer p53_0] w12 fun e_11 w13 => ∃ n86 : Int, e_11 = .returned (.int .i64 n86) ∧
  ((n86 != (IntKind.i64.wrap ((IntKind.i64.wrap ((IntKind.i64.wrap (1 + (Int.tmod (IntKind.i64.wrap n0) 6))) - 1)) - n12))) = true →
  R (.bool false) w13) ∧
  ((n86 != (IntKind.i64.wrap ((IntKind.i64.wrap ((IntKind.i64.wrap (1 + (Int.tmod (IntKind.i64.wrap n0) 6))) - 1)) - n12))) = false →
  K [.int .i64 (IntKind.i64.wrap (n12 + 1))] w13))) ∧
  ((decide (n12 < (IntKind.i64.wrap (1 + (Int.tmod (IntKind.i64.wrap n0) 6))))) = false →
  Calls Try.prog 13 #[.slice p1 l1 c1] w10 fun e_12 w14 => ∃ (p96 : Option Addr) (l96 c96 : Nat), e_12 = .returned (.slice p96 l96 c96) ∧
  Calls Try.prog 12 #[.pointer p53_0, .int .i64 9, .slice p96 l96 c96] w14 fun e_13 w15 => ∃ n97_0 : Int, ∃ n97_1 : Int, e_13 = .returned (.tuple #[.int .u64 n97_0, .int .i64 n97_1]) ∧
  Calls Try.prog 14 #[.pointer p53_0] w15 fun e_14 w16 => ∃ n101 : Int, e_14 = .returned (.int .u64 n101) ∧
  Calls Try.prog 11 #[.pointer p43] w16 fun e_15 w17 => ∃ p104_0 : Option Addr, ∃ (p104_1 : Option Addr) (l104_1 c104_1 : Nat), ∃ n104_2 : Int, e_15 = .returned (.tuple #[.pointer p104_0, .slice p104_1 l104_1 c104_1, .int .i64 n104_2]) ∧
  ((n97_0 != 0) = true →
  R (.bool false) w17) ∧
  ((n97_0 != 0) = false →
  ((n97_1 != 130) = true →
  R (.bool false) w17) ∧
  ((n97_1 != 130) = false →
  ((n101 != (IntKind.u64.wrap ((IntKind.u64.wrap (IntKind.i64.wrap (1 + (Int.tmod (IntKind.i64.wrap n0) 6)))) + 1))) = true →
  R (.bool false) w17) ∧
  ((n101 != (IntKind.u64.wrap ((IntKind.u64.wrap (IntKind.i64.wrap (1 + (Int.tmod (IntKind.i64.wrap n0) 6)))) + 1))) = false →
  (((l104_1 : Int) != (IntKind.i64.wrap (1 + (Int.tmod (IntKind.i64.wrap n0) 6)))) = true →
  R (.bool false) w17) ∧
  (((l104_1 : Int) != (IntKind.i64.wrap (1 + (Int.tmod (IntKind.i64.wrap n0) 6)))) = false →
  (IntKind.i64.wrap (1 + (Int.tmod (IntKind.i64.wrap n0) 6))) ≠ 0 ∧
  Calls Try.prog 23 #[.pointer p53_0, .int .u64 (IntKind.u64.wrap ((IntKind.u64.wrap (IntKind.i64.wrap (1 + (Int.tmod (IntKind.i64.wrap n0) 6)))) + 1))] w17 fun e_16 w18 => ∃ n136 : Int, e_16 = .returned (.int .i64 n136) ∧
  ((n136 != 1) = true →
  R (.bool false) w18) ∧
  ((n136 != 1) = false →
  Calls Try.prog 23 #[.pointer p53_0, .int .u64 (IntKind.u64.wrap (IntKind.i64.wrap (1 + (Int.tmod (IntKind.i64.wrap n2) (IntKind.i64.wrap (1 + (Int.tmod (IntKind.i64.wrap n0) 6)))))))] w18 fun e_17 w19 => ∃ n142 : Int, e_17 = .returned (.int .i64 n142) ∧
  ((n142 != 0) = true →
  R (.bool false) w19) ∧
  ((n142 != 0) = false →
  Calls Try.prog 15 #[.pointer p53_0] w19 fun e_18 w20 => ∃ n147 : Int, e_18 = .returned (.int .i64 n147) ∧
  ((n147 != (IntKind.i64.wrap (1 + (Int.tmod (IntKind.i64.wrap n2) (IntKind.i64.wrap (1 + (Int.tmod (IntKind.i64.wrap n0) 6))))))) = true →
  R (.bool false) w20) ∧
  ((n147 != (IntKind.i64.wrap (1 + (Int.tmod (IntKind.i64.wrap n2) (IntKind.i64.wrap (1 + (Int.tmod (IntKind.i64.wrap n0) 6))))))) = false →
  Calls Try.prog 23 #[.pointer p53_0, .int .u64 (IntKind.u64.wrap ((IntKind.u64.wrap (IntKind.i64.wrap (1 + (Int.tmod (IntKind.i64.wrap n2) (IntKind.i64.wrap (1 + (Int.tmod (IntKind.i64.wrap n0) 6))))))) - 1))] w20 fun e_19 w21 => ∃ n156 : Int, e_19 = .returned (.int .i64 n156) ∧
  ((n156 != 1) = true →
  R (.bool false) w21) ∧
  ((n156 != 1) = false →
  Calls Try.prog 13 #[.slice p1 l1 c1] w21 fun e_20 w22 => ∃ (p162 : Option Addr) (l162 c162 : Nat), e_20 = .returned (.slice p162 l162 c162) ∧
  Calls Try.prog 12 #[.pointer p53_0, .int .i64 9, .slice p162 l162 c162] w22 fun e_21 w23 => ∃ n163_0 : Int, ∃ n163_1 : Int, e_21 = .returned (.tuple #[.int .u64 n163_0, .int .i64 n163_1]) ∧
  ((n163_1 == 0) = true →
  R (.bool (n163_0 == (IntKind.u64.wrap ((IntKind.u64.wrap (IntKind.i64.wrap (1 + (Int.tmod (IntKind.i64.wrap n0) 6)))) + 1)))) w23) ∧
  ((n163_1 == 0) = false →
  R (.bool false) w23))))))))))))))))))
theorem revetmentlaw13_RingBusy_eq (n0 : Int) (p1 : Option Addr) (l1 c1 : Nat) (n2 : Int) (w : World) (R : Value → World → Prop) : revetmentlaw13_RingBusy n0 p1 l1 c1 n2 w R = fnP Try.prog Try.f5 (.s .o (.s .o (.s .o (.s .o (.s .o (.s .o (.s .o (.s (.s .o (.b (.l [(12, .one (.int .i64))] .o))) .o)))))))) [.int .u8 n0, .slice p1 l1 c1, .int .u8 n2] w R := by kernel_rfl
theorem revetmentlaw13_RingBusy_calls {n0 : Int} {p1 : Option Addr} {l1 c1 : Nat} {n2 : Int} {w : World} {R : Value → World → Prop} (h : revetmentlaw13_RingBusy n0 p1 l1 c1 n2 w R) : Calls Try.prog 5 #[.int .u8 n0, .slice p1 l1 c1, .int .u8 n2] w fun e w1 => ∃ v, e = .returned v ∧ R v w1 := fnP_calls callable Try.func5 (revetmentlaw13_RingBusy_eq n0 p1 l1 c1 n2 w R ▸ h)

/-- revetment/revetmentlaw13.RingFinds -/
def revetmentlaw13_RingFinds (p0 : Option Addr) (l0 c0 : Nat) (p1 : Option Addr) (l1 c1 : Nat) (n2 : Int) (p3 : Option Addr) (l3 c3 : Nat) (w : World) (R : Value → World → Prop) : Prop :=
  Calls Try.prog 7 #[.slice p1 l1 c1] w fun e w1 => ∃ b22 : Bool, e = .returned (.bool b22) ∧
  (b22 = true →
  Calls Try.prog 8 #[] w1 fun e_1 w2 => ∃ b42 : Bool, e_1 = .returned (.bool b42) ∧
  R (.bool b42) w2) ∧
  (b22 = false →
  (((l1 : Int) == 0) = true →
  Calls Try.prog 8 #[] w1 fun e_2 w3 => ∃ b42_1 : Bool, e_2 = .returned (.bool b42_1) ∧
  R (.bool b42_1) w3) ∧
  (((l1 : Int) == 0) = false →
  ((decide ((l0 : Int) > 30)) = true →
  Calls Try.prog 8 #[] w1 fun e_3 w4 => ∃ b42_2 : Bool, e_3 = .returned (.bool b42_2) ∧
  R (.bool b42_2) w4) ∧
  ((decide ((l0 : Int) > 30)) = false →
  ((decide ((l3 : Int) > 50)) = true →
  Calls Try.prog 8 #[] w1 fun e_4 w5 => ∃ b42_3 : Bool, e_4 = .returned (.bool b42_3) ∧
  R (.bool b42_3) w5) ∧
  ((decide ((l3 : Int) > 50)) = false →
  Calls Try.prog 8 #[] w1 fun e_5 w6 => ∃ b39 : Bool, e_5 = .returned (.bool b39) ∧
  ((!b39) = true →
  Calls Try.prog 8 #[] w6 fun e_6 w7 => ∃ b42_4 : Bool, e_6 = .returned (.bool b42_4) ∧
  R (.bool b42_4) w7) ∧
  ((!b39) = false →
  Calls Try.prog 9 #[.int .i64 209] w6 fun e_7 w8 => ∃ p43 : Option Addr, e_7 = .returned (.pointer p43) ∧
  ((Option.isNone p43) = true →
  R (.bool false) w8) ∧
  ((Option.isNone p43) = false →
  Calls Try.prog 10 #[.pointer p43] w8 fun e_8 w9 => ∃ n48 : Int, e_8 = .returned (.int .i64 n48) ∧
  ((n48 != 0) = true →
  R (.bool false) w9) ∧
  ((n48 != 0) = false →
  Calls Try.prog 11 #[.pointer p43] w9 fun e_9 w10 => ∃ p53_0 : Option Addr, ∃ (p53_1 : Option Addr) (l53_1 c53_1 : Nat), ∃ n53_2 : Int, e_9 = .returned (.tuple #[.pointer p53_0, .slice p53_1 l53_1 c53_1, .int .i64 n53_2]) ∧
  ((n53_2 != 0) = true →
  R (.bool false) w10) ∧
  ((n53_2 != 0) = false →
  ((Option.isNone p53_0) = true →
  R (.bool false) w10) ∧
  ((Option.isNone p53_0) = false →
  LoopP (fun I => I [.int .i64 0, .int .i64 0] w10) fun K vs w11 => ∃ n13 : Int, ∃ n14 : Int, vs = [.int .i64 n13, .int .i64 n14] ∧
  ((decide (n14 < (l0 : Int))) = true →
  Join (fun vs_1 w12 => ∃ n13_1 : Int, vs_1 = [.int .i64 n13_1] ∧
  ∃ D : World → Prop, D w12.drew ∧
  ∃ a89 : Addr, p0 = some a89 ∧ (0 : Int) ≤ n14 ∧ n14 < (l0 : Int) ∧
  ∃ n90 : Int, (∀ w, D w → w.cell? (Addr.add a89 (n14.toNat * 1)) = some (.int .u8 n90)) ∧
  Calls Try.prog 13 #[.slice p1 l1 c1] w12.drew fun e_10 w13 => ∃ (p93 : Option Addr) (l93 c93 : Nat), e_10 = .returned (.slice p93 l93 c93) ∧
  D w13 ∧
  Calls Try.prog 12 #[.pointer p53_0, .int .i64 (IntKind.i64.wrap n90), .slice p93 l93 c93] w13 fun e_11 w14 => ∃ n94_0 : Int, ∃ n94_1 : Int, e_11 = .returned (.tuple #[.int .u64 n94_0, .int .i64 n94_1]) ∧
  D w14 ∧
  ((n94_1 != 0) = true →
  R (.bool false) w14) ∧
  ((n94_1 != 0) = false →
  ((n94_0 != (IntKind.u64.wrap ((IntKind.u64.wrap n14) + 1))) = true →
  R (.bool false) w14) ∧
  ((n94_0 != (IntKind.u64.wrap ((IntKind.u64.wrap n14) + 1))) = false →
  K [.int .i64 n13_1, .int .i64 (IntKind.i64.wrap (n14 + 1))] w14))) fun J =>
  Calls Try.prog 15 #[.pointer p53_0] w11 fun e_12 w15 => ∃ n70 : Int, e_12 = .returned (.int .i64 n70) ∧
  ((n70 == 0) = true →
  ∃ n79 : Int, ∃ w16, (builtin .min #[3, 3] 3 #[false, false] #[.int .i64 (IntKind.i64.wrap ((IntKind.i64.wrap (n13 + 1)) + (Int.tmod (IntKind.i64.wrap n2) 5))), .int .i64 n14]).run Try.prog w15 = .ok (.value (.int .i64 n79)) w16 ∧
  Calls Try.prog 23 #[.pointer p53_0, .int .u64 (IntKind.u64.wrap n79)] w16 fun e_13 w17 => ∃ n83 : Int, e_13 = .returned (.int .i64 n83) ∧
  ((n83 != 0) = true →
  R (.bool false) w17) ∧
  ((n83 != 0) = false →
  J [.int .i64 n79] w17)) ∧
  ((n70 == 0) = false →
  J [.int .i64 n13] w15)) ∧
  ((decide (n14 < (l0 : Int))) = false →
  Calls Try.prog 20 #[.pointer p43, .slice p3 l3 c3] w11 fun e_14 w18 => e_14 = .returned (.tuple #[]) ∧
  Calls Try.prog 11 #[.pointer p43] w18 fun e_15 w19 => ∃ p111_0 : Option Addr, ∃ (p111_1 : Option Addr) (l111_1 c111_1 : Nat), ∃ n111_2 : Int, e_15 = .returned (.tuple #[.pointer p111_0, .slice p111_1 l111_1 c111_1, .int .i64 n111_2]) ∧
  ((n111_2 != 0) = true →
  R (.bool false) w19) ∧
  ((n111_2 != 0) = false →
  ((Option.isNone p111_0) = true →
  R (.bool false) w19) ∧
  ((Option.isNone p111_0) = false →
  (((l111_1 : Int) != (IntKind.i64.wrap ((l0 : Int) - n13))) = true →
  R (.bool false) w19) ∧
  (((l111_1 : Int) != (IntKind.i64.wrap ((l0 : Int) - n13))) = false →
  LoopP (fun I_1 => I_1 [.int .i64 0] w19) fun K_1 vs_2 w20 => ∃ n20 : Int, vs_2 = [.int .i64 n20] ∧
  ((decide (n20 < (l111_1 : Int))) = true →
  ∃ D_1 : World → Prop, D_1 w20.drew ∧
  ∃ a138 : Addr, p111_1 = some a138 ∧ (0 : Int) ≤ n20 ∧ n20 < (l111_1 : Int) ∧
  ∃ n140 : Int, (∀ w, D_1 w → w.cell? (Addr.add a138 (n20.toNat * 3)) = some (.int .u64 n140)) ∧
  ((n140 != (IntKind.u64.wrap ((IntKind.u64.wrap (IntKind.i64.wrap (n13 + n20))) + 1))) = true →
  R (.bool false) w20.drew) ∧
  ((n140 != (IntKind.u64.wrap ((IntKind.u64.wrap (IntKind.i64.wrap (n13 + n20))) + 1))) = false →
  ∃ a150 : Addr, p111_1 = some a150 ∧ (0 : Int) ≤ n20 ∧ n20 < (l111_1 : Int) ∧
  ∃ n152 : Int, (∀ w, D_1 w → w.cell? (Addr.add (Addr.add a150 (n20.toNat * 3)) 1) = some (.int .i64 n152)) ∧
  ∃ a157 : Addr, p0 = some a157 ∧ (0 : Int) ≤ IntKind.i64.wrap (n13 + n20) ∧ (IntKind.i64.wrap (n13 + n20)) < (l0 : Int) ∧
  ∃ n158 : Int, (∀ w, D_1 w → w.cell? (Addr.add a157 ((IntKind.i64.wrap (n13 + n20)).toNat * 1)) = some (.int .u8 n158)) ∧
  ((n152 != (IntKind.i64.wrap n158)) = true →
  R (.bool false) w20.drew) ∧
  ((n152 != (IntKind.i64.wrap n158)) = false →
  ∃ a165 : Addr, p111_1 = some a165 ∧ (0 : Int) ≤ n20 ∧ n20 < (l111_1 : Int) ∧
  ∃ (p167 : Option Addr) (l167 c167 : Nat), (∀ w, D_1 w → w.cell? (Addr.add (Addr.add a165 (n20.toNat * 3)) 2) = some (.slice p167 l167 c167)) ∧
  Calls Try.prog 22 #[.slice p167 l167 c167] w20.drew fun e_16 w21 => ∃ (p168 : Option Addr) (l168 c168 : Nat), e_16 = .returned (.slice p168 l168 c168) ∧
  D_1 w21 ∧
  Calls Try.prog 13 #[.slice p1 l1 c1] w21 fun e_17 w22 => ∃ (p171 : Option Addr) (l171 c171 : Nat), e_17 = .returned (.slice p171 l171 c171) ∧
  D_1 w22 ∧
  Calls Try.prog 22 #[.slice p171 l171 c171] w22 fun e_18 w23 => ∃ (p172 : Option Addr) (l172 c172 : Nat), e_18 = .returned (.slice p172 l172 c172) ∧
  D_1 w23 ∧
  Calls Try.prog 21 #[.agg #[.int .u64 0, .int .i64 0, .slice p168 l168 c168], .agg #[.int .u64 0, .int .i64 0, .slice p172 l172 c172]] w23 fun e_19 w24 => ∃ b174 : Bool, e_19 = .returned (.bool b174) ∧
  D_1 w24 ∧
  ((!b174) = true →
  R (.bool false) w24) ∧
  ((!b174) = false →
  K_1 [.int .i64 (IntKind.i64.wrap (n20 + 1))] w24)))) ∧
  ((decide (n20 < (l111_1 : Int))) = false →
  Calls Try.prog 14 #[.pointer p111_0] w20 fun e_20 w25 => ∃ n178 : Int, e_20 = .returned (.int .u64 n178) ∧
  R (.bool (n178 == (IntKind.u64.wrap ((IntKind.u64.wrap (l0 : Int)) + 1)))) w25))))))))))))))
theorem revetmentlaw13_RingFinds_eq (p0 : Option Addr) (l0 c0 : Nat) (p1 : Option Addr) (l1 c1 : Nat) (n2 : Int) (p3 : Option Addr) (l3 c3 : Nat) (w : World) (R : Value → World → Prop) : revetmentlaw13_RingFinds p0 l0 c0 p1 l1 c1 n2 p3 l3 c3 w R = fnP Try.prog Try.f6 (.s .o (.s .o (.s .o (.s .o (.s .o (.s .o (.s .o (.s (.s .o (.b (.l [(13, .one (.int .i64)), (14, .one (.int .i64))] (.s .o (.s (.b (.j [(13, .one (.int .i64))] .o .o)) .o))))) (.s .o (.s .o (.s .o (.s (.s .o (.b (.l [(20, .one (.int .i64))] .o))) .o)))))))))))) [.slice p0 l0 c0, .slice p1 l1 c1, .int .u8 n2, .slice p3 l3 c3] w R := by kernel_rfl
theorem revetmentlaw13_RingFinds_calls {p0 : Option Addr} {l0 c0 : Nat} {p1 : Option Addr} {l1 c1 : Nat} {n2 : Int} {p3 : Option Addr} {l3 c3 : Nat} {w : World} {R : Value → World → Prop} (h : revetmentlaw13_RingFinds p0 l0 c0 p1 l1 c1 n2 p3 l3 c3 w R) : Calls Try.prog 6 #[.slice p0 l0 c0, .slice p1 l1 c1, .int .u8 n2, .slice p3 l3 c3] w fun e w1 => ∃ v, e = .returned v ∧ R v w1 := fnP_calls callable Try.func6 (revetmentlaw13_RingFinds_eq p0 l0 c0 p1 l1 c1 n2 p3 l3 c3 w R ▸ h)

/-- revetment/revetmentlaw13.heavy -/
def revetmentlaw13_heavy (p0 : Option Addr) (l0 c0 : Nat) (w : World) (R : Value → World → Prop) : Prop :=
  ((decide ((l0 : Int) > 20)) = true →
  R (.bool true) w) ∧
  ((decide ((l0 : Int) > 20)) = false →
  LoopP (fun I => I [.int .i64 0] w) fun K vs w1 => ∃ n3 : Int, vs = [.int .i64 n3] ∧
  ((decide (n3 < (l0 : Int))) = true →
  ∃ a15 : Addr, p0 = some a15 ∧ (0 : Int) ≤ n3 ∧ n3 < (l0 : Int) ∧
  ∃ s16 : ByteArray, w1.cell? (Addr.add a15 (n3.toNat * 1)) = some (.string s16) ∧
  ((decide ((s16.size : Int) > 100)) = true →
  R (.bool true) w1) ∧
  ((decide ((s16.size : Int) > 100)) = false →
  K [.int .i64 (IntKind.i64.wrap (n3 + 1))] w1)) ∧
  ((decide (n3 < (l0 : Int))) = false →
  R (.bool false) w1))
theorem revetmentlaw13_heavy_eq (p0 : Option Addr) (l0 c0 : Nat) (w : World) (R : Value → World → Prop) : revetmentlaw13_heavy p0 l0 c0 w R = fnP Try.prog Try.f7 (.s .o (.s .o (.s (.s .o (.b (.l [(3, .one (.int .i64))] .o))) .o))) [.slice p0 l0 c0] w R := by kernel_rfl
theorem revetmentlaw13_heavy_calls {p0 : Option Addr} {l0 c0 : Nat} {w : World} {R : Value → World → Prop} (h : revetmentlaw13_heavy p0 l0 c0 w R) : Calls Try.prog 7 #[.slice p0 l0 c0] w fun e w1 => ∃ v, e = .returned v ∧ R v w1 := fnP_calls callable Try.func7 (revetmentlaw13_heavy_eq p0 l0 c0 w R ▸ h)

/-- revetment/revetmentlaw13.shown -/
def revetmentlaw13_shown (w : World) (R : Value → World → Prop) : Prop :=
  Calls Try.prog 9 #[.int .i64 90] w fun e w1 => ∃ p7 : Option Addr, e = .returned (.pointer p7) ∧
  ((Option.isNone p7) = true →
  R (.bool false) w1) ∧
  ((Option.isNone p7) = false →
  Calls Try.prog 10 #[.pointer p7] w1 fun e_1 w2 => ∃ n12 : Int, e_1 = .returned (.int .i64 n12) ∧
  ((n12 != 0) = true →
  R (.bool false) w2) ∧
  ((n12 != 0) = false →
  Calls Try.prog 11 #[.pointer p7] w2 fun e_2 w3 => ∃ p17_0 : Option Addr, ∃ (p17_1 : Option Addr) (l17_1 c17_1 : Nat), ∃ n17_2 : Int, e_2 = .returned (.tuple #[.pointer p17_0, .slice p17_1 l17_1 c17_1, .int .i64 n17_2]) ∧
  ((Option.isNone p17_0) = true →
  R (.bool false) w3) ∧
  ((Option.isNone p17_0) = false →
  (((l17_1 : Int) != 0) = true →
  R (.bool false) w3) ∧
  (((l17_1 : Int) != 0) = false →
  ((n17_2 != 0) = true →
  R (.bool false) w3) ∧
  ((n17_2 != 0) = false →
  Alloc #[.string (ByteArray.mk #[97])] 9 w3 fun k34 w4 =>
  Calls Try.prog 13 #[.slice (some ⟨k34, 0, none⟩) 1 1] w4 fun e_3 w5 => ∃ (p35 : Option Addr) (l35 c35 : Nat), e_3 = .returned (.slice p35 l35 c35) ∧
  Calls Try.prog 12 #[.pointer p17_0, .int .i64 3, .slice p35 l35 c35] w5 fun e_4 w6 => ∃ n36_0 : Int, ∃ n36_1 : Int, e_4 = .returned (.tuple #[.int .u64 n36_0, .int .i64 n36_1]) ∧
  ((n36_0 == 1) = true →
  ((n36_1 == 0) = true →
  Calls Try.prog 15 #[.pointer p17_0] w6 fun e_5 w7 => ∃ n47 : Int, e_5 = .returned (.int .i64 n47) ∧
  ((n47 == 1) = true →
  Calls Try.prog 14 #[.pointer p17_0] w7 fun e_6 w8 => ∃ n52 : Int, e_6 = .returned (.int .u64 n52) ∧
  ((n52 == 2) = true →
  Calls Try.prog 16 #[.int .i64 90] w8 fun e_7 w9 => ∃ n56 : Int, e_7 = .returned (.int .i64 n56) ∧
  R (.bool (n56 == 2)) w9) ∧
  ((n52 == 2) = false →
  R (.bool false) w8)) ∧
  ((n47 == 1) = false →
  R (.bool false) w7)) ∧
  ((n36_1 == 0) = false →
  R (.bool false) w6)) ∧
  ((n36_0 == 1) = false →
  R (.bool false) w6))))))
theorem revetmentlaw13_shown_eq (w : World) (R : Value → World → Prop) : revetmentlaw13_shown w R = fnP Try.prog Try.f8 .o [] w R := by kernel_rfl
theorem revetmentlaw13_shown_calls {w : World} {R : Value → World → Prop} (h : revetmentlaw13_shown w R) : Calls Try.prog 8 #[] w fun e w1 => ∃ v, e = .returned v ∧ R v w1 := fnP_calls callable Try.func8 (revetmentlaw13_shown_eq w R ▸ h)

/-- revetment/ring.Format -/
def ring_Format (p0 : Option Addr) (w : World) (R : Value → World → Prop) : Prop :=
  Calls Try.prog 24 #[.pointer p0] w fun e w1 => ∃ n7 : Int, e = .returned (.int .i64 n7) ∧
  Calls Try.prog 16 #[.int .i64 n7] w1 fun e_1 w2 => ∃ n8 : Int, e_1 = .returned (.int .i64 n8) ∧
  ((n8 == 0) = true →
  R (.int .i64 1) w2) ∧
  ((n8 == 0) = false →
  LoopP (fun I => I [.slice none 0 0, .int .i64 0] w2) fun K vs w3 => ∃ (p4 : Option Addr) (l4 c4 : Nat), ∃ n12 : Int, vs = [.slice p4 l4 c4, .int .i64 n12] ∧
  ((decide (n12 < n8)) = true →
  Calls Try.prog 26 #[.string (ByteArray.mk #[0]), .int .i64 64] w3 fun e_2 w4 => ∃ s20 : ByteArray, e_2 = .returned (.string s20) ∧
  Calls Try.prog 25 #[.pointer p0, .int .i64 (IntKind.i64.wrap (4 + (IntKind.i64.wrap (41 * n12)))), .string s20] w4 fun e_3 w5 => ∃ v21 : Value, e_3 = .returned v21 ∧
  LitS Try.prog 64 1 [(0, v21)] w5 fun k22 w6 =>
  ∃ (p23 : Option Addr) (l23 c23 : Nat), ∃ w7, (builtin .append #[64, 64] 64 #[false, false] #[.slice p4 l4 c4, .slice (some ⟨k22, 0, none⟩) 1 1]).run Try.prog w6 = .ok (.value (.slice p23 l23 c23)) w7 ∧
  K [.slice p23 l23 c23, .int .i64 (IntKind.i64.wrap (n12 + 1))] w7) ∧
  ((decide (n12 < n8)) = false →
  Calls Try.prog 28 #[.int .u64 0] w3 fun e_4 w8 => ∃ s27 : ByteArray, e_4 = .returned (.string s27) ∧
  Calls Try.prog 25 #[.pointer p0, .int .i64 3, .string s27] w8 fun e_5 w9 => ∃ v28 : Value, e_5 = .returned v28 ∧
  LitS Try.prog 64 2 [(0, v28), (1, .func (.func 19) #[.pointer p0] #[])] w9 fun k31 w10 =>
  ∃ (p32 : Option Addr) (l32 c32 : Nat), ∃ w11, (builtin .append #[64, 64] 64 #[false, false] #[.slice p4 l4 c4, .slice (some ⟨k31, 0, none⟩) 2 2]).run Try.prog w10 = .ok (.value (.slice p32 l32 c32)) w11 ∧
  Calls Try.prog 27 #[.slice p32 l32 c32] w11 fun e_6 w12 => ∃ n33 : Int, e_6 = .returned (.int .i64 n33) ∧
  R (.int .i64 n33) w12))
theorem ring_Format_eq (p0 : Option Addr) (w : World) (R : Value → World → Prop) : ring_Format p0 w R = fnP Try.prog Try.f10 (.s .o (.s .o (.s .o (.s .o (.s (.s .o (.b (.l [(4, .one .slice), (12, .one (.int .i64))] .o))) .o))))) [.pointer p0] w R := by kernel_rfl
theorem ring_Format_calls {p0 : Option Addr} {w : World} {R : Value → World → Prop} (h : ring_Format p0 w R) : Calls Try.prog 10 #[.pointer p0] w fun e w1 => ∃ v, e = .returned v ∧ R v w1 := fnP_calls callable Try.func10 (ring_Format_eq p0 w R ▸ h)

/-- revetment/ring.Open -/
def ring_Open (p0 : Option Addr) (w : World) (R : Value → World → Prop) : Prop :=
  Calls Try.prog 29 #[.pointer p0, .int .i64 3] w fun e w1 => ∃ s17_0 : ByteArray, ∃ n17_1 : Int, e = .returned (.tuple #[.string s17_0, .int .i64 n17_1]) ∧
  ((n17_1 != 0) = true →
  R (.tuple #[.pointer none, .slice none 0 0, .int .i64 n17_1]) w1) ∧
  ((n17_1 != 0) = false →
  Calls Try.prog 24 #[.pointer p0] w1 fun e_1 w2 => ∃ n25 : Int, e_1 = .returned (.int .i64 n25) ∧
  Calls Try.prog 16 #[.int .i64 n25] w2 fun e_2 w3 => ∃ n26 : Int, e_2 = .returned (.int .i64 n26) ∧
  Alloc #[.pointer p0, .int .i64 n26, .int .u64 0, .int .u64 0] 72 w3 fun k28 w4 =>
  Calls Try.prog 30 #[.string s17_0] w4 fun e_3 w5 => ∃ s31_0 : ByteArray, ∃ b31_1 : Bool, e_3 = .returned (.tuple #[.string s31_0, .bool b31_1]) ∧
  ((!b31_1) = true →
  R (.tuple #[.pointer none, .slice none 0 0, .int .i64 200]) w5) ∧
  ((!b31_1) = false →
  ∃ a38 : Addr, (some ⟨k28, 0, none⟩) = some a38 ∧
  ∃ n40 : Int, w5.cell? (a38.add 1) = some (.int .i64 n40) ∧
  ((n40 == 0) = true →
  R (.tuple #[.pointer none, .slice none 0 0, .int .i64 200]) w5) ∧
  ((n40 == 0) = false →
  ∃ s45 : ByteArray, ∃ w6, (Instr.sliceAt 9 (.string s31_0) (some (.int .i64 4)) (some (.int .i64 12)) none).run Try.prog w5 = .ok (.string s45) w6 ∧
  Alloc #[.int .i64 8] 3 w6 fun k46 w7 =>
  Calls Try.prog 31 #[.string s45, .slice (some ⟨k46, 0, none⟩) 1 1] w7 fun e_4 w8 => ∃ (p47_0 : Option Addr) (l47_0 c47_0 : Nat), ∃ n47_1 : Int, e_4 = .returned (.tuple #[.slice p47_0 l47_0 c47_0, .int .i64 n47_1]) ∧
  (((l47_0 : Int) != 1) = true →
  R (.tuple #[.pointer none, .slice none 0 0, .int .i64 200]) w8) ∧
  (((l47_0 : Int) != 1) = false →
  ∃ a55 : Addr, p47_0 = some a55 ∧ (0 : Int) ≤ 0 ∧ 0 < (l47_0 : Int) ∧
  ∃ n56 : Int, w8.cell? a55 = some (.int .u64 n56) ∧
  Calls Try.prog 28 #[.int .u64 n56] w8 fun e_5 w9 => ∃ s57 : ByteArray, e_5 = .returned (.string s57) ∧
  ((!(s57.toList == s17_0.toList)) = true →
  R (.tuple #[.pointer none, .slice none 0 0, .int .i64 200]) w9) ∧
  ((!(s57.toList == s17_0.toList)) = false →
  ∃ D : World → Prop, D w9.drew ∧
  ∃ a64 : Addr, p47_0 = some a64 ∧ (0 : Int) ≤ 0 ∧ 0 < (l47_0 : Int) ∧
  ∃ n65 : Int, (∀ w, D w → w.cell? a64 = some (.int .u64 n65)) ∧
  ∃ a67 : Addr, p47_0 = some a67 ∧ (0 : Int) ≤ 0 ∧ 0 < (l47_0 : Int) ∧
  ∃ n68 : Int, (∀ w, D w → w.cell? a67 = some (.int .u64 n68)) ∧
  ∃ a70 : Addr, (some ⟨k28, 0, none⟩) = some a70 ∧
  St (a70.add 2) (.int .u64 n65) w9.drew fun w10 =>
  D w10 ∧
  ∃ a72 : Addr, (some ⟨k28, 0, none⟩) = some a72 ∧
  St (a72.add 3) (.int .u64 (IntKind.u64.wrap (n68 + 1))) w10 fun w11 =>
  Join (fun vs w12 => ∃ (p12 : Option Addr) (l12 c12 : Nat), vs = [.slice p12 l12 c12] ∧
  R (.tuple #[.pointer (some ⟨k28, 0, none⟩), .slice p12 l12 c12, .int .i64 0]) w12) fun J =>
  LoopP (fun I => I [.slice none 0 0] w11) fun K vs_1 w13 => ∃ (p12_1 : Option Addr) (l12_1 c12_1 : Nat), vs_1 = [.slice p12_1 l12_1 c12_1] ∧
  ∃ a77 : Addr, (some ⟨k28, 0, none⟩) = some a77 ∧
  ∃ n79 : Int, w13.cell? (a77.add 1) = some (.int .i64 n79) ∧
  ((decide ((l12_1 : Int) < n79)) = true →
  ∃ a84 : Addr, (some ⟨k28, 0, none⟩) = some a84 ∧
  ∃ n86 : Int, w13.cell? (a84.add 3) = some (.int .u64 n86) ∧
  Calls Try.prog 32 #[.pointer (some ⟨k28, 0, none⟩), .int .u64 n86] w13 fun e_6 w14 => ∃ n87_0_0 : Int, ∃ n87_0_1 : Int, ∃ (p87_0_2 : Option Addr) (l87_0_2 c87_0_2 : Nat), ∃ b87_1 : Bool, e_6 = .returned (.tuple #[.agg #[.int .u64 n87_0_0, .int .i64 n87_0_1, .slice p87_0_2 l87_0_2 c87_0_2], .bool b87_1]) ∧
  Alloc #[.int .u64 0, .int .i64 0, .slice none 0 0] 46 w14 fun k13 w15 =>
  St ⟨k13, 0, none⟩ (.int .u64 n87_0_0) w15 fun w16 =>
  St ⟨k13, 1, none⟩ (.int .i64 n87_0_1) w16 fun w17 =>
  St ⟨k13, 2, none⟩ (.slice p87_0_2 l87_0_2 c87_0_2) w17 fun w18 =>
  ((!b87_1) = true →
  J [.slice p12_1 l12_1 c12_1] w18) ∧
  ((!b87_1) = false →
  ∃ n93_0 : Int, ∃ n93_1 : Int, ∃ (p93_2 : Option Addr) (l93_2 c93_2 : Nat), (w18.cell? ⟨k13, 0, none⟩ = some (.int .u64 n93_0) ∧ w18.cell? ⟨k13, 1, none⟩ = some (.int .i64 n93_1) ∧ w18.cell? ⟨k13, 2, none⟩ = some (.slice p93_2 l93_2 c93_2)) ∧
  Alloc #[.int .u64 n93_0, .int .i64 n93_1, .slice p93_2 l93_2 c93_2] 46 w18 fun k94 w19 =>
  ∃ (p95 : Option Addr) (l95 c95 : Nat), ∃ w20, (builtin .append #[31, 31] 31 #[false, false] #[.slice p12_1 l12_1 c12_1, .slice (some ⟨k94, 0, none⟩) 1 1]).run Try.prog w19 = .ok (.value (.slice p95 l95 c95)) w20 ∧
  ∃ a97 : Addr, (some ⟨k28, 0, none⟩) = some a97 ∧
  ∃ n99 : Int, w20.cell? (a97.add 3) = some (.int .u64 n99) ∧
  ∃ a101 : Addr, (some ⟨k28, 0, none⟩) = some a101 ∧
  St (a101.add 3) (.int .u64 (IntKind.u64.wrap (n99 + 1))) w20 fun w21 =>
  K [.slice p95 l95 c95] w21)) ∧
  ((decide ((l12_1 : Int) < n79)) = false →
  J [.slice p12_1 l12_1 c12_1] w13))))))
theorem ring_Open_eq (p0 : Option Addr) (w : World) (R : Value → World → Prop) : ring_Open p0 w R = fnP Try.prog Try.f11 (.s .o (.s .o (.s .o (.s .o (.s .o (.s .o (.s .o (.s .o (.s .o (.s .o (.j [(12, .one .slice)] (.b (.l [(12, .one .slice)] .o)) .o))))))))))) [.pointer p0] w R := by kernel_rfl
theorem ring_Open_calls {p0 : Option Addr} {w : World} {R : Value → World → Prop} (h : ring_Open p0 w R) : Calls Try.prog 11 #[.pointer p0] w fun e w1 => ∃ v, e = .returned v ∧ R v w1 := fnP_calls callable Try.func11 (ring_Open_eq p0 w R ▸ h)

/-- (*revetment/ring.Ring).Append -/
def ring_Ring_Append (p0 : Option Addr) (n1 : Int) (p2 : Option Addr) (l2 c2 : Nat) (w : World) (R : Value → World → Prop) : Prop :=
  Calls Try.prog 15 #[.pointer p0] w fun e w1 => ∃ n18 : Int, e = .returned (.int .i64 n18) ∧
  ((decide (n18 < 1)) = true →
  R (.tuple #[.int .u64 0, .int .i64 130]) w1) ∧
  ((decide (n18 < 1)) = false →
  ∃ a21 : Addr, p0 = some a21 ∧
  ∃ n23 : Int, w1.cell? (a21.add 3) = some (.int .u64 n23) ∧
  Calls Try.prog 17 #[.agg #[.int .u64 n23, .int .i64 n1, .slice p2 l2 c2]] w1 fun e_1 w2 => ∃ s29_0 : ByteArray, ∃ (p29_1 : Option Addr) (l29_1 c29_1 : Nat), ∃ n29_2 : Int, e_1 = .returned (.tuple #[.string s29_0, .slice p29_1 l29_1 c29_1, .int .i64 n29_2]) ∧
  ((n29_2 != 0) = true →
  R (.tuple #[.int .u64 0, .int .i64 1]) w2) ∧
  ((n29_2 != 0) = false →
  Calls Try.prog 33 #[.pointer p0, .int .u64 n23] w2 fun e_2 w3 => ∃ n37 : Int, e_2 = .returned (.int .i64 n37) ∧
  LoopP (fun I => I [.slice none 0 0, .int .i64 0] w3) fun K vs w4 => ∃ (p13 : Option Addr) (l13 c13 : Nat), ∃ n40 : Int, vs = [.slice p13 l13 c13, .int .i64 n40] ∧
  ((decide (n40 < (l29_1 : Int))) = true →
  ∃ a43 : Addr, p29_1 = some a43 ∧ (0 : Int) ≤ n40 ∧ n40 < (l29_1 : Int) ∧
  ∃ s44 : ByteArray, w4.cell? (Addr.add a43 (n40.toNat * 1)) = some (.string s44) ∧
  ∃ a47 : Addr, p0 = some a47 ∧
  ∃ p49 : Option Addr, w4.cell? a47 = some (.pointer p49) ∧
  Calls Try.prog 25 #[.pointer p49, .int .i64 (IntKind.i64.wrap ((IntKind.i64.wrap (n37 + 1)) + n40)), .string s44] w4 fun e_3 w5 => ∃ v55 : Value, e_3 = .returned v55 ∧
  LitS Try.prog 64 1 [(0, v55)] w5 fun k56 w6 =>
  ∃ (p57 : Option Addr) (l57 c57 : Nat), ∃ w7, (builtin .append #[64, 64] 64 #[false, false] #[.slice p13 l13 c13, .slice (some ⟨k56, 0, none⟩) 1 1]).run Try.prog w6 = .ok (.value (.slice p57 l57 c57)) w7 ∧
  K [.slice p57 l57 c57, .int .i64 (IntKind.i64.wrap (n40 + 1))] w7) ∧
  ((decide (n40 < (l29_1 : Int))) = false →
  ∃ D : World → Prop, D w4.drew ∧
  ∃ a61 : Addr, p0 = some a61 ∧
  ∃ p63 : Option Addr, (∀ w, D w → w.cell? a61 = some (.pointer p63)) ∧
  ∃ a66 : Addr, p0 = some a66 ∧
  ∃ p68 : Option Addr, (∀ w, D w → w.cell? a66 = some (.pointer p68)) ∧
  Calls Try.prog 25 #[.pointer p68, .int .i64 n37, .string s29_0] w4.drew fun e_4 w8 => ∃ v71 : Value, e_4 = .returned v71 ∧
  D w8 ∧
  ∃ a73 : Addr, p0 = some a73 ∧
  ∃ p75 : Option Addr, (∀ w, D w → w.cell? a73 = some (.pointer p75)) ∧
  LitS Try.prog 64 3 [(0, .func (.func 19) #[.pointer p63] #[]), (1, v71), (2, .func (.func 19) #[.pointer p75] #[])] w8 fun k77 w9 =>
  D w9 ∧
  ∃ (p78 : Option Addr) (l78 c78 : Nat), ∃ w10, (builtin .append #[64, 64] 64 #[false, false] #[.slice p13 l13 c13, .slice (some ⟨k77, 0, none⟩) 3 3]).run Try.prog w9 = .ok (.value (.slice p78 l78 c78)) w10 ∧
  D w10 ∧
  Calls Try.prog 27 #[.slice p78 l78 c78] w10 fun e_5 w11 => ∃ n79 : Int, e_5 = .returned (.int .i64 n79) ∧
  D w11 ∧
  ((n79 != 0) = true →
  R (.tuple #[.int .u64 0, .int .i64 n79]) w11) ∧
  ((n79 != 0) = false →
  ∃ a84 : Addr, p0 = some a84 ∧
  ∃ n86 : Int, w11.cell? (a84.add 3) = some (.int .u64 n86) ∧
  ∃ a88 : Addr, p0 = some a88 ∧
  St (a88.add 3) (.int .u64 (IntKind.u64.wrap (n86 + 1))) w11 fun w12 =>
  R (.tuple #[.int .u64 n23, .int .i64 0]) w12))))
theorem ring_Ring_Append_eq (p0 : Option Addr) (n1 : Int) (p2 : Option Addr) (l2 c2 : Nat) (w : World) (R : Value → World → Prop) : ring_Ring_Append p0 n1 p2 l2 c2 w R = fnP Try.prog Try.f12 (.s .o (.s .o (.s .o (.s .o (.s .o (.s .o (.s .o (.s (.s .o (.b (.l [(13, .one .slice), (40, .one (.int .i64))] .o))) .o)))))))) [.pointer p0, .int .i64 n1, .slice p2 l2 c2] w R := by kernel_rfl
theorem ring_Ring_Append_calls {p0 : Option Addr} {n1 : Int} {p2 : Option Addr} {l2 c2 : Nat} {w : World} {R : Value → World → Prop} (h : ring_Ring_Append p0 n1 p2 l2 c2 w R) : Calls Try.prog 12 #[.pointer p0, .int .i64 n1, .slice p2 l2 c2] w fun e w1 => ∃ v, e = .returned v ∧ R v w1 := fnP_calls callable Try.func12 (ring_Ring_Append_eq p0 n1 p2 l2 c2 w R ▸ h)

/-- revetment/revetmentlaw13.some -/
def revetmentlaw13_some (p0 : Option Addr) (l0 c0 : Nat) (w : World) (R : Value → World → Prop) : Prop :=
  Alloc #[] 84 w fun k5 w1 =>
  LoopP (fun I => I [.slice (some ⟨k5, 0, none⟩) 0 0, .int .i64 0] w1) fun K vs w2 => ∃ (p3 : Option Addr) (l3 c3 : Nat), ∃ n4 : Int, vs = [.slice p3 l3 c3, .int .i64 n4] ∧
  ((decide (n4 < (l0 : Int))) = true →
  ((decide (n4 < 8)) = true →
  ∃ a22 : Addr, p0 = some a22 ∧ (0 : Int) ≤ n4 ∧ n4 < (l0 : Int) ∧
  ∃ s23 : ByteArray, w2.cell? (Addr.add a22 (n4.toNat * 1)) = some (.string s23) ∧
  Calls Try.prog 34 #[.string s23] w2 fun e w3 => ∃ s24 : ByteArray, e = .returned (.string s24) ∧
  Alloc #[.int .i64 n4, .int .i64 (Int.tmod n4 4), .string s24] 84 w3 fun k26 w4 =>
  ∃ (p27 : Option Addr) (l27 c27 : Nat), ∃ w5, (builtin .append #[37, 37] 37 #[false, false] #[.slice p3 l3 c3, .slice (some ⟨k26, 0, none⟩) 1 1]).run Try.prog w4 = .ok (.value (.slice p27 l27 c27)) w5 ∧
  K [.slice p27 l27 c27, .int .i64 (IntKind.i64.wrap (n4 + 1))] w5) ∧
  ((decide (n4 < 8)) = false →
  R (.slice p3 l3 c3) w2)) ∧
  ((decide (n4 < (l0 : Int))) = false →
  R (.slice p3 l3 c3) w2)
theorem revetmentlaw13_some_eq (p0 : Option Addr) (l0 c0 : Nat) (w : World) (R : Value → World → Prop) : revetmentlaw13_some p0 l0 c0 w R = fnP Try.prog Try.f13 (.s .o (.s .o (.s (.s .o (.b (.l [(3, .one .slice), (4, .one (.int .i64))] .o))) .o))) [.slice p0 l0 c0] w R := by kernel_rfl
theorem revetmentlaw13_some_calls {p0 : Option Addr} {l0 c0 : Nat} {w : World} {R : Value → World → Prop} (h : revetmentlaw13_some p0 l0 c0 w R) : Calls Try.prog 13 #[.slice p0 l0 c0] w fun e w1 => ∃ v, e = .returned v ∧ R v w1 := fnP_calls callable Try.func13 (revetmentlaw13_some_eq p0 l0 c0 w R ▸ h)

/-- (*revetment/ring.Ring).Next -/
def ring_Ring_Next (p0 : Option Addr) (w : World) (R : Value → World → Prop) : Prop :=
  ∃ a4 : Addr, p0 = some a4 ∧
  ∃ n6 : Int, w.cell? (a4.add 3) = some (.int .u64 n6) ∧
  R (.int .u64 n6) w
theorem ring_Ring_Next_eq (p0 : Option Addr) (w : World) (R : Value → World → Prop) : ring_Ring_Next p0 w R = fnP Try.prog Try.f14 .o [.pointer p0] w R := by kernel_rfl
theorem ring_Ring_Next_calls {p0 : Option Addr} {w : World} {R : Value → World → Prop} (h : ring_Ring_Next p0 w R) : Calls Try.prog 14 #[.pointer p0] w fun e w1 => ∃ v, e = .returned v ∧ R v w1 := fnP_calls callable Try.func14 (ring_Ring_Next_eq p0 w R ▸ h)

/-- (*revetment/ring.Ring).Left -/
def ring_Ring_Left (p0 : Option Addr) (w : World) (R : Value → World → Prop) : Prop :=
  ∃ D : World → Prop, D w.drew ∧
  ∃ a4 : Addr, p0 = some a4 ∧
  ∃ n6 : Int, (∀ w, D w → w.cell? (a4.add 1) = some (.int .i64 n6)) ∧
  ∃ a8 : Addr, p0 = some a8 ∧
  ∃ n10 : Int, (∀ w, D w → w.cell? (a8.add 3) = some (.int .u64 n10)) ∧
  ∃ a12 : Addr, p0 = some a12 ∧
  ∃ n14 : Int, (∀ w, D w → w.cell? (a12.add 2) = some (.int .u64 n14)) ∧
  R (.int .i64 (IntKind.i64.wrap (n6 - (IntKind.i64.wrap (IntKind.u64.wrap ((IntKind.u64.wrap (n10 - n14)) - 1)))))) w.drew
theorem ring_Ring_Left_eq (p0 : Option Addr) (w : World) (R : Value → World → Prop) : ring_Ring_Left p0 w R = fnP Try.prog Try.f15 .o [.pointer p0] w R := by kernel_rfl
theorem ring_Ring_Left_calls {p0 : Option Addr} {w : World} {R : Value → World → Prop} (h : ring_Ring_Left p0 w R) : Calls Try.prog 15 #[.pointer p0] w fun e w1 => ∃ v, e = .returned v ∧ R v w1 := fnP_calls callable Try.func15 (ring_Ring_Left_eq p0 w R ▸ h)

/-- revetment/ring.Slots -/
def ring_Slots (n0 : Int) (w : World) (R : Value → World → Prop) : Prop :=
  ∃ n5 : Int, ∃ w1, (builtin .max #[3, 3] 3 #[false, true] #[.int .i64 (IntKind.i64.wrap (n0 - 4)), .int .i64 0]).run Try.prog w = .ok (.value (.int .i64 n5)) w1 ∧
  R (.int .i64 (IntKind.i64.wrap (Int.tdiv n5 41))) w1
theorem ring_Slots_eq (n0 : Int) (w : World) (R : Value → World → Prop) : ring_Slots n0 w R = fnP Try.prog Try.f16 .o [.int .i64 n0] w R := by kernel_rfl
theorem ring_Slots_calls {n0 : Int} {w : World} {R : Value → World → Prop} (h : ring_Slots n0 w R) : Calls Try.prog 16 #[.int .i64 n0] w fun e w1 => ∃ v, e = .returned v ∧ R v w1 := fnP_calls callable Try.func16 (ring_Slots_eq n0 w R ▸ h)

/-- revetment/record.Encode -/
def record_Encode (n0_0 : Int) (n0_1 : Int) (p0_2 : Option Addr) (l0_2 c0_2 : Nat) (w : World) (R : Value → World → Prop) : Prop :=
  Alloc #[.int .u64 n0_0, .int .i64 n0_1, .slice p0_2 l0_2 c0_2] 46 w fun k1 w1 =>
  ∃ n8_0 : Int, ∃ n8_1 : Int, ∃ (p8_2 : Option Addr) (l8_2 c8_2 : Nat), (w1.cell? ⟨k1, 0, none⟩ = some (.int .u64 n8_0) ∧ w1.cell? ⟨k1, 1, none⟩ = some (.int .i64 n8_1) ∧ w1.cell? ⟨k1, 2, none⟩ = some (.slice p8_2 l8_2 c8_2)) ∧
  Calls Try.prog 35 #[.agg #[.int .u64 n8_0, .int .i64 n8_1, .slice p8_2 l8_2 c8_2]] w1 fun e w2 => ∃ b9 : Bool, e = .returned (.bool b9) ∧
  ((!b9) = true →
  R (.tuple #[.string (ByteArray.mk #[]), .slice none 0 0, .int .i64 1]) w2) ∧
  ((!b9) = false →
  ∃ (p12 : Option Addr) (l12 c12 : Nat), w2.cell? ⟨k1, 2, none⟩ = some (.slice p12 l12 c12) ∧
  LoopP (fun I => I [.slice none 0 0, .int .i64 0] w2) fun K vs w3 => ∃ (p5 : Option Addr) (l5 c5 : Nat), ∃ n14 : Int, vs = [.slice p5 l5 c5, .int .i64 n14] ∧
  ((decide (n14 < (l12 : Int))) = true →
  ∃ a16 : Addr, p12 = some a16 ∧ (0 : Int) ≤ n14 ∧ n14 < (l12 : Int) ∧
  ∃ n17_0 : Int, ∃ n17_1 : Int, ∃ s17_2 : ByteArray, (w3.cell? (Addr.add a16 (n14.toNat * 3)) = some (.int .i64 n17_0) ∧ w3.cell? (Addr.add (Addr.add a16 (n14.toNat * 3)) 1) = some (.int .i64 n17_1) ∧ w3.cell? (Addr.add (Addr.add a16 (n14.toNat * 3)) 2) = some (.string s17_2)) ∧
  Alloc #[.int .i64 0, .int .i64 0, .string (ByteArray.mk #[])] 84 w3 fun k7 w4 =>
  St ⟨k7, 0, none⟩ (.int .i64 n17_0) w4 fun w5 =>
  St ⟨k7, 1, none⟩ (.int .i64 n17_1) w5 fun w6 =>
  St ⟨k7, 2, none⟩ (.string s17_2) w6 fun w7 =>
  ∃ s20 : ByteArray, w7.cell? ⟨k7, 2, none⟩ = some (.string s20) ∧
  Alloc #[.string s20] 9 w7 fun k21 w8 =>
  ∃ (p22 : Option Addr) (l22 c22 : Nat), ∃ w9, (builtin .append #[23, 23] 23 #[false, false] #[.slice p5 l5 c5, .slice (some ⟨k21, 0, none⟩) 1 1]).run Try.prog w8 = .ok (.value (.slice p22 l22 c22)) w9 ∧
  K [.slice p22 l22 c22, .int .i64 (IntKind.i64.wrap (n14 + 1))] w9) ∧
  ((decide (n14 < (l12 : Int))) = false →
  ∃ D : World → Prop, D w3.drew ∧
  ∃ n24_0 : Int, ∃ n24_1 : Int, ∃ (p24_2 : Option Addr) (l24_2 c24_2 : Nat), (∀ w, D w → w.cell? ⟨k1, 0, none⟩ = some (.int .u64 n24_0) ∧ w.cell? ⟨k1, 1, none⟩ = some (.int .i64 n24_1) ∧ w.cell? ⟨k1, 2, none⟩ = some (.slice p24_2 l24_2 c24_2)) ∧
  Calls Try.prog 38 #[.slice p5 l5 c5, .string (ByteArray.mk #[])] w3.drew fun e_1 w10 => ∃ s26 : ByteArray, e_1 = .returned (.string s26) ∧
  D w10 ∧
  Calls Try.prog 37 #[.string s26] w10 fun e_2 w11 => ∃ n27 : Int, e_2 = .returned (.int .u32 n27) ∧
  D w11 ∧
  Calls Try.prog 36 #[.agg #[.int .u64 n24_0, .int .i64 n24_1, .slice p24_2 l24_2 c24_2], .int .u32 n27] w11 fun e_3 w12 => ∃ s28 : ByteArray, e_3 = .returned (.string s28) ∧
  D w12 ∧
  R (.tuple #[.string s28, .slice p5 l5 c5, .int .i64 0]) w12))
theorem record_Encode_eq (n0_0 : Int) (n0_1 : Int) (p0_2 : Option Addr) (l0_2 c0_2 : Nat) (w : World) (R : Value → World → Prop) : record_Encode n0_0 n0_1 p0_2 l0_2 c0_2 w R = fnP Try.prog Try.f17 (.s .o (.s .o (.s .o (.s (.s .o (.b (.l [(5, .one .slice), (14, .one (.int .i64))] .o))) .o)))) [.agg #[.int .u64 n0_0, .int .i64 n0_1, .slice p0_2 l0_2 c0_2]] w R := by kernel_rfl
theorem record_Encode_calls {n0_0 : Int} {n0_1 : Int} {p0_2 : Option Addr} {l0_2 c0_2 : Nat} {w : World} {R : Value → World → Prop} (h : record_Encode n0_0 n0_1 p0_2 l0_2 c0_2 w R) : Calls Try.prog 17 #[.agg #[.int .u64 n0_0, .int .i64 n0_1, .slice p0_2 l0_2 c0_2]] w fun e w1 => ∃ v, e = .returned v ∧ R v w1 := fnP_calls callable Try.func17 (record_Encode_eq n0_0 n0_1 p0_2 l0_2 c0_2 w R ▸ h)

/-- revetment/revetmentlaw13.theirs -/
def revetmentlaw13_theirs (p0 : Option Addr) (l0 c0 : Nat) (w : World) (R : Value → World → Prop) : Prop :=
  Alloc #[] 96 w fun k5 w1 =>
  LoopP (fun I => I [.slice (some ⟨k5, 0, none⟩) 0 0, .int .i64 0] w1) fun K vs w2 => ∃ (p3 : Option Addr) (l3 c3 : Nat), ∃ n4 : Int, vs = [.slice p3 l3 c3, .int .i64 n4] ∧
  ((decide (n4 < (l0 : Int))) = true →
  ∃ a15 : Addr, p0 = some a15 ∧ (0 : Int) ≤ n4 ∧ n4 < (l0 : Int) ∧
  ∃ n16_0 : Int, ∃ n16_1 : Int, ∃ s16_2 : ByteArray, (w2.cell? (Addr.add a15 (n4.toNat * 3)) = some (.int .i64 n16_0) ∧ w2.cell? (Addr.add (Addr.add a15 (n4.toNat * 3)) 1) = some (.int .i64 n16_1) ∧ w2.cell? (Addr.add (Addr.add a15 (n4.toNat * 3)) 2) = some (.string s16_2)) ∧
  Alloc #[.int .i64 n16_0, .int .i64 n16_1, .string s16_2] 96 w2 fun k17 w3 =>
  ∃ (p18 : Option Addr) (l18 c18 : Nat), ∃ w4, (builtin .append #[51, 51] 51 #[false, false] #[.slice p3 l3 c3, .slice (some ⟨k17, 0, none⟩) 1 1]).run Try.prog w3 = .ok (.value (.slice p18 l18 c18)) w4 ∧
  K [.slice p18 l18 c18, .int .i64 (IntKind.i64.wrap (n4 + 1))] w4) ∧
  ((decide (n4 < (l0 : Int))) = false →
  R (.slice p3 l3 c3) w2)
theorem revetmentlaw13_theirs_eq (p0 : Option Addr) (l0 c0 : Nat) (w : World) (R : Value → World → Prop) : revetmentlaw13_theirs p0 l0 c0 w R = fnP Try.prog Try.f22 (.s .o (.s .o (.s (.s .o (.b (.l [(3, .one .slice), (4, .one (.int .i64))] .o))) .o))) [.slice p0 l0 c0] w R := by kernel_rfl
theorem revetmentlaw13_theirs_calls {p0 : Option Addr} {l0 c0 : Nat} {w : World} {R : Value → World → Prop} (h : revetmentlaw13_theirs p0 l0 c0 w R) : Calls Try.prog 22 #[.slice p0 l0 c0] w fun e w1 => ∃ v, e = .returned v ∧ R v w1 := fnP_calls callable Try.func22 (revetmentlaw13_theirs_eq p0 l0 c0 w R ▸ h)

/-- (*revetment/ring.Ring).Trim -/
def ring_Ring_Trim (p0 : Option Addr) (n1 : Int) (w : World) (R : Value → World → Prop) : Prop :=
  ∃ D : World → Prop, D w.drew ∧
  ∃ a8 : Addr, p0 = some a8 ∧
  ∃ n10 : Int, (∀ w, D w → w.cell? (a8.add 2) = some (.int .u64 n10)) ∧
  ∃ a13 : Addr, p0 = some a13 ∧
  ∃ n15 : Int, (∀ w, D w → w.cell? (a13.add 3) = some (.int .u64 n15)) ∧
  ∃ a17 : Addr, p0 = some a17 ∧
  ∃ n19 : Int, (∀ w, D w → w.cell? (a17.add 2) = some (.int .u64 n19)) ∧
  ((decide ((IntKind.u64.wrap (n1 - n10)) ≥ (IntKind.u64.wrap (n15 - n19)))) = true →
  R (.int .i64 1) w.drew) ∧
  ((decide ((IntKind.u64.wrap (n1 - n10)) ≥ (IntKind.u64.wrap (n15 - n19)))) = false →
  ∃ D_1 : World → Prop, D_1 w.drew.drew ∧
  ∃ a23 : Addr, p0 = some a23 ∧
  ∃ p25 : Option Addr, (∀ w, D_1 w → w.cell? a23 = some (.pointer p25)) ∧
  Calls Try.prog 28 #[.int .u64 n1] w.drew.drew fun e w1 => ∃ s27 : ByteArray, e = .returned (.string s27) ∧
  D_1 w1 ∧
  Calls Try.prog 25 #[.pointer p25, .int .i64 3, .string s27] w1 fun e_1 w2 => ∃ v28 : Value, e_1 = .returned v28 ∧
  D_1 w2 ∧
  ∃ a30 : Addr, p0 = some a30 ∧
  ∃ p32 : Option Addr, (∀ w, D_1 w → w.cell? a30 = some (.pointer p32)) ∧
  LitS Try.prog 64 2 [(0, v28), (1, .func (.func 19) #[.pointer p32] #[])] w2 fun k34 w3 =>
  D_1 w3 ∧
  Calls Try.prog 27 #[.slice (some ⟨k34, 0, none⟩) 2 2] w3 fun e_2 w4 => ∃ n35 : Int, e_2 = .returned (.int .i64 n35) ∧
  D_1 w4 ∧
  ((n35 == 0) = true →
  ∃ a40 : Addr, p0 = some a40 ∧
  St (a40.add 2) (.int .u64 n1) w4 fun w5 =>
  R (.int .i64 n35) w5) ∧
  ((n35 == 0) = false →
  R (.int .i64 n35) w4))
theorem ring_Ring_Trim_eq (p0 : Option Addr) (n1 : Int) (w : World) (R : Value → World → Prop) : ring_Ring_Trim p0 n1 w R = fnP Try.prog Try.f23 .o [.pointer p0, .int .u64 n1] w R := by kernel_rfl
theorem ring_Ring_Trim_calls {p0 : Option Addr} {n1 : Int} {w : World} {R : Value → World → Prop} (h : ring_Ring_Trim p0 n1 w R) : Calls Try.prog 23 #[.pointer p0, .int .u64 n1] w fun e w1 => ∃ v, e = .returned v ∧ R v w1 := fnP_calls callable Try.func23 (ring_Ring_Trim_eq p0 n1 w R ▸ h)

/-- revetment/ring.written -/
def ring_written (p0 : Option Addr) (n1 : Int) (s2 : ByteArray) (w : World) (R : Value → World → Prop) : Prop :=
  Alloc #[.pointer p0] 26 w fun k3 w1 =>
  Alloc #[.int .i64 n1] 3 w1 fun k4 w2 =>
  Alloc #[.string s2] 9 w2 fun k5 w3 =>
  R (.func (.func 45) #[] #[.pointer (some ⟨k3, 0, none⟩), .pointer (some ⟨k4, 0, none⟩), .pointer (some ⟨k5, 0, none⟩)]) w3
theorem ring_written_eq (p0 : Option Addr) (n1 : Int) (s2 : ByteArray) (w : World) (R : Value → World → Prop) : ring_written p0 n1 s2 w R = fnP Try.prog Try.f25 .o [.pointer p0, .int .i64 n1, .string s2] w R := by kernel_rfl
theorem ring_written_calls {p0 : Option Addr} {n1 : Int} {s2 : ByteArray} {w : World} {R : Value → World → Prop} (h : ring_written p0 n1 s2 w R) : Calls Try.prog 25 #[.pointer p0, .int .i64 n1, .string s2] w fun e w1 => ∃ v, e = .returned v ∧ R v w1 := fnP_calls callable Try.func25 (ring_written_eq p0 n1 s2 w R ▸ h)

/-- revetment/ring.steps -/
def ring_steps (p0 : Option Addr) (l0 c0 : Nat) (w : World) (R : Value → World → Prop) : Prop :=
  LoopP (fun I => I [.int .i64 0] w) fun K vs w1 => ∃ n8 : Int, vs = [.int .i64 n8] ∧
  ((decide (n8 < (l0 : Int))) = true →
  ∃ a10 : Addr, p0 = some a10 ∧ (0 : Int) ≤ n8 ∧ n8 < (l0 : Int) ∧
  ∃ v11 : Value, w1.cell? (Addr.add a10 (n8.toNat * 1)) = some (v11) ∧
  CallF Try.prog v11 [] w1 fun e w2 => ∃ n13 : Int, e = .returned (.int .i64 n13) ∧
  ((n13 != 0) = true →
  R (.int .i64 n13) w2) ∧
  ((n13 != 0) = false →
  K [.int .i64 (IntKind.i64.wrap (n8 + 1))] w2)) ∧
  ((decide (n8 < (l0 : Int))) = false →
  R (.int .i64 0) w1)
theorem ring_steps_eq (p0 : Option Addr) (l0 c0 : Nat) (w : World) (R : Value → World → Prop) : ring_steps p0 l0 c0 w R = fnP Try.prog Try.f27 (.s .o (.s (.s .o (.b (.l [(8, .one (.int .i64))] .o))) .o)) [.slice p0 l0 c0] w R := by kernel_rfl
theorem ring_steps_calls {p0 : Option Addr} {l0 c0 : Nat} {w : World} {R : Value → World → Prop} (h : ring_steps p0 l0 c0 w R) : Calls Try.prog 27 #[.slice p0 l0 c0] w fun e w1 => ∃ v, e = .returned v ∧ R v w1 := fnP_calls callable Try.func27 (ring_steps_eq p0 l0 c0 w R ▸ h)

/-- revetment/ring.mark -/
def ring_mark (n0 : Int) (w : World) (R : Value → World → Prop) : Prop :=
  Alloc #[.int .u64 n0] 34 w fun k9 w1 =>
  Alloc #[.int .i64 8] 3 w1 fun k10 w2 =>
  Calls Try.prog 52 #[.slice (some ⟨k9, 0, none⟩) 1 1, .slice (some ⟨k10, 0, none⟩) 1 1] w2 fun e w3 => ∃ s11_0 : ByteArray, ∃ n11_1 : Int, e = .returned (.tuple #[.string s11_0, .int .i64 n11_1]) ∧
  (((ByteArray.mk #[82, 86, 84, 77]).size + s11_0.size : Nat) : Int) ≤ 9223372036854775807 ∧
  Calls Try.prog 53 #[.string ((ByteArray.mk #[82, 86, 84, 77]) ++ s11_0), .int .i64 64] w3 fun e_1 w4 => ∃ s17_0 : ByteArray, ∃ b17_1 : Bool, e_1 = .returned (.tuple #[.string s17_0, .bool b17_1]) ∧
  R (.string s17_0) w4
theorem ring_mark_eq (n0 : Int) (w : World) (R : Value → World → Prop) : ring_mark n0 w R = fnP Try.prog Try.f28 .o [.int .u64 n0] w R := by kernel_rfl
theorem ring_mark_calls {n0 : Int} {w : World} {R : Value → World → Prop} (h : ring_mark n0 w R) : Calls Try.prog 28 #[.int .u64 n0] w fun e w1 => ∃ v, e = .returned v ∧ R v w1 := fnP_calls callable Try.func28 (ring_mark_eq n0 w R ▸ h)

/-- revetment/crc.Open -/
def crc_Open (s0 : ByteArray) (w : World) (R : Value → World → Prop) : Prop :=
  ∃ D : World → Prop, D w.drew ∧
  ((decide ((IntKind.i64.wrap ((s0.size : Int) - 4)) < 0)) = true →
  R (.tuple #[.string (ByteArray.mk #[]), .bool false]) w.drew) ∧
  ((decide ((IntKind.i64.wrap ((s0.size : Int) - 4)) < 0)) = false →
  ∃ s13 : ByteArray, (∀ w, D w → (Instr.sliceAt 9 (.string s0) none (some (.int .i64 (IntKind.i64.wrap ((s0.size : Int) - 4)))) none).run Try.prog w = .ok (.string s13) w) ∧
  Calls Try.prog 37 #[.string s13] w.drew fun e w1 => ∃ n14 : Int, e = .returned (.int .u32 n14) ∧
  D w1 ∧
  Calls Try.prog 55 #[.int .u32 n14] w1 fun e_1 w2 => ∃ (p15 : Option Addr) (l15 c15 : Nat), e_1 = .returned (.slice p15 l15 c15) ∧
  D w2 ∧
  ∃ s16 : ByteArray, (∀ x0, x0 = w2 → (convert 22 9 (.slice p15 l15 c15)).run Try.prog x0 = .ok (.string s16) x0) ∧
  ∃ s19 : ByteArray, (∀ w, D w → (Instr.sliceAt 9 (.string s0) (some (.int .i64 (IntKind.i64.wrap ((s0.size : Int) - 4)))) none none).run Try.prog w = .ok (.string s19) w) ∧
  ((!(s16.toList == s19.toList)) = true →
  R (.tuple #[.string (ByteArray.mk #[]), .bool false]) w2) ∧
  ((!(s16.toList == s19.toList)) = false →
  ∃ s24 : ByteArray, ∃ w3, (Instr.sliceAt 9 (.string s0) none (some (.int .i64 (IntKind.i64.wrap ((s0.size : Int) - 4)))) none).run Try.prog w2 = .ok (.string s24) w3 ∧
  R (.tuple #[.string s24, .bool true]) w3))
theorem crc_Open_eq (s0 : ByteArray) (w : World) (R : Value → World → Prop) : crc_Open s0 w R = fnP Try.prog Try.f30 .o [.string s0] w R := by kernel_rfl
theorem crc_Open_calls {s0 : ByteArray} {w : World} {R : Value → World → Prop} (h : crc_Open s0 w R) : Calls Try.prog 30 #[.string s0] w fun e w1 => ∃ v, e = .returned v ∧ R v w1 := fnP_calls callable Try.func30 (crc_Open_eq s0 w R ▸ h)

/-- revetment/pack.Decode -/
def pack_Decode (s0 : ByteArray) (p1 : Option Addr) (l1 c1 : Nat) (w : World) (R : Value → World → Prop) : Prop :=
  Alloc #[.string s0] 9 w fun k2 w1 =>
  Calls Try.prog 56 #[.slice p1 l1 c1] w1 fun e w2 => ∃ n13_0 : Int, ∃ n13_1 : Int, e = .returned (.tuple #[.int .i64 n13_0, .int .i64 n13_1]) ∧
  ((n13_1 != 0) = true →
  R (.tuple #[.slice none 0 0, .int .i64 n13_1]) w2) ∧
  ((n13_1 != 0) = false →
  ∃ s21 : ByteArray, w2.cell? ⟨k2, 0, none⟩ = some (.string s21) ∧
  (((s21.size : Int) != n13_0) = true →
  R (.tuple #[.slice none 0 0, .int .i64 31]) w2) ∧
  (((s21.size : Int) != n13_0) = false →
  ∃ (p27 : Option Addr) (l27 c27 : Nat), ∃ w3, (Instr.makeSlice 75 (.int .i64 (l1 : Int)) (.int .i64 (l1 : Int))).run Try.prog w2 = .ok (.slice p27 l27 c27) w3 ∧
  Alloc #[.slice none 0 0] 75 w3 fun k8 w4 =>
  St ⟨k8, 0, none⟩ (.slice p27 l27 c27) w4 fun w5 =>
  Calls Try.prog 57 #[.slice p1 l1 c1] w5 fun e_1 w6 => ∃ v29 : Value, e_1 = .returned v29 ∧
  RangeP Try.prog v29 (fun ob l args W Φ => ∃ n30 : Int, ∃ n31 : Int, args = [.int .i64 n30, .int .i64 n31] ∧
  RoundP ob l Φ (fun K X R w7 =>
  ∃ D : World → Prop, D w7.drew ∧
  ∃ (p32 : Option Addr) (l32 c32 : Nat), (∀ w, D w → w.cell? ⟨k8, 0, none⟩ = some (.slice p32 l32 c32)) ∧
  ∃ a34 : Addr, p32 = some a34 ∧ (0 : Int) ≤ n30 ∧ n30 < (l32 : Int) ∧
  ∃ n35 : Int, (∀ w, D w → w.cell? (Addr.add a34 (n30.toNat * 1)) = some (.int .u64 n35)) ∧
  ∃ s36 : ByteArray, (∀ w, D w → w.cell? ⟨k2, 0, none⟩ = some (.string s36)) ∧
  ∃ n37 : Int, (∀ w, D w → (Instr.index 9 (.string s36) (.int .i64 0)).run Try.prog w = .ok (.int .u8 n37) w) ∧
  (0 : Int) ≤ n31 ∧
  ∃ a42 : Addr, p32 = some a42 ∧ (0 : Int) ≤ n30 ∧ n30 < (l32 : Int) ∧
  St (Addr.add a42 (n30.toNat * 1)) (.int .u64 (bits2 .or .u64 n35 (IntKind.u64.wrap ((IntKind.u64.wrap n37) * 2 ^ (min n31.toNat 64))))) w7.drew fun w8 =>
  ∃ s43 : ByteArray, w8.cell? ⟨k2, 0, none⟩ = some (.string s43) ∧
  ∃ s44 : ByteArray, ∃ w9, (Instr.sliceAt 9 (.string s43) (some (.int .i64 1)) none none).run Try.prog w8 = .ok (.string s44) w9 ∧
  St ⟨k2, 0, none⟩ (.string s44) w9 fun w10 =>
  K w10) W) []
  (fun d w11 =>
  ∃ (p45 : Option Addr) (l45 c45 : Nat), w11.cell? ⟨k8, 0, none⟩ = some (.slice p45 l45 c45) ∧
  w11.heap[d]? = some (.deferred (some [])) ∧
  R (.tuple #[.slice p45 l45 c45, .int .i64 0]) (w11.putObj d (.deferred none)))
  (fun d_1 w12 =>
  w12.heap[d_1]? = some (.deferred (some [])) ∧
  R (.tuple #[.slice none 0 0, .int .i64 0]) (w12.putObj d_1 (.deferred none))) w6))
theorem pack_Decode_eq (s0 : ByteArray) (p1 : Option Addr) (l1 c1 : Nat) (w : World) (R : Value → World → Prop) : pack_Decode s0 p1 l1 c1 w R = fnP Try.prog Try.f31 (.s .o (.s .o (.s .o (.s .o (.s (.s .o (.b (.rf [(30, .one (.int .i64)), (31, .one (.int .i64))] .o))) .o))))) [.string s0, .slice p1 l1 c1] w R := by kernel_rfl
theorem pack_Decode_calls {s0 : ByteArray} {p1 : Option Addr} {l1 c1 : Nat} {w : World} {R : Value → World → Prop} (h : pack_Decode s0 p1 l1 c1 w R) : Calls Try.prog 31 #[.string s0, .slice p1 l1 c1] w fun e w1 => ∃ v, e = .returned v ∧ R v w1 := fnP_calls callable Try.func31 (pack_Decode_eq s0 p1 l1 c1 w R ▸ h)

/-- (*revetment/ring.Ring).record -/
def ring_Ring_record (p0 : Option Addr) (n1 : Int) (w : World) (R : Value → World → Prop) : Prop :=
  Alloc #[.int .u64 0, .int .i64 0, .slice none 0 0] 46 w fun k4 w1 =>
  Calls Try.prog 33 #[.pointer p0, .int .u64 n1] w1 fun e w2 => ∃ n18 : Int, e = .returned (.int .i64 n18) ∧
  ∃ a21 : Addr, p0 = some a21 ∧
  ∃ p23 : Option Addr, w2.cell? a21 = some (.pointer p23) ∧
  Calls Try.prog 29 #[.pointer p23, .int .i64 n18] w2 fun e_1 w3 => ∃ s25_0 : ByteArray, ∃ n25_1 : Int, e_1 = .returned (.tuple #[.string s25_0, .int .i64 n25_1]) ∧
  ((n25_1 != 0) = true →
  St ⟨k4, 0, none⟩ (.int .u64 0) w3 fun w4 =>
  St ⟨k4, 1, none⟩ (.int .i64 0) w4 fun w5 =>
  St ⟨k4, 2, none⟩ (.slice none 0 0) w5 fun w6 =>
  ∃ nr4_0 : Int, ∃ nr4_1 : Int, ∃ (pr4_2 : Option Addr) (lr4_2 cr4_2 : Nat), (w6.cell? ⟨k4, 0, none⟩ = some (.int .u64 nr4_0) ∧ w6.cell? ⟨k4, 1, none⟩ = some (.int .i64 nr4_1) ∧ w6.cell? ⟨k4, 2, none⟩ = some (.slice pr4_2 lr4_2 cr4_2)) ∧
  R (.tuple #[.agg #[.int .u64 nr4_0, .int .i64 nr4_1, .slice pr4_2 lr4_2 cr4_2], .bool false]) w6) ∧
  ((n25_1 != 0) = false →
  Calls Try.prog 58 #[.string s25_0] w3 fun e_2 w7 => ∃ n33_0_0 : Int, ∃ n33_0_1 : Int, ∃ (p33_0_2 : Option Addr) (l33_0_2 c33_0_2 : Nat), ∃ n33_1 : Int, ∃ n33_2 : Int, e_2 = .returned (.tuple #[.agg #[.int .u64 n33_0_0, .int .i64 n33_0_1, .slice p33_0_2 l33_0_2 c33_0_2], .int .u32 n33_1, .int .i64 n33_2]) ∧
  Alloc #[.int .u64 0, .int .i64 0, .slice none 0 0] 46 w7 fun k9 w8 =>
  St ⟨k9, 0, none⟩ (.int .u64 n33_0_0) w8 fun w9 =>
  St ⟨k9, 1, none⟩ (.int .i64 n33_0_1) w9 fun w10 =>
  St ⟨k9, 2, none⟩ (.slice p33_0_2 l33_0_2 c33_0_2) w10 fun w11 =>
  ((n33_2 != 0) = true →
  St ⟨k4, 0, none⟩ (.int .u64 0) w11 fun w12 =>
  St ⟨k4, 1, none⟩ (.int .i64 0) w12 fun w13 =>
  St ⟨k4, 2, none⟩ (.slice none 0 0) w13 fun w14 =>
  ∃ nr4_0_1 : Int, ∃ nr4_1_1 : Int, ∃ (pr4_2_1 : Option Addr) (lr4_2_1 cr4_2_1 : Nat), (w14.cell? ⟨k4, 0, none⟩ = some (.int .u64 nr4_0_1) ∧ w14.cell? ⟨k4, 1, none⟩ = some (.int .i64 nr4_1_1) ∧ w14.cell? ⟨k4, 2, none⟩ = some (.slice pr4_2_1 lr4_2_1 cr4_2_1)) ∧
  R (.tuple #[.agg #[.int .u64 nr4_0_1, .int .i64 nr4_1_1, .slice pr4_2_1 lr4_2_1 cr4_2_1], .bool false]) w14) ∧
  ((n33_2 != 0) = false →
  ∃ n41 : Int, w11.cell? ⟨k9, 0, none⟩ = some (.int .u64 n41) ∧
  ((n41 != n1) = true →
  St ⟨k4, 0, none⟩ (.int .u64 0) w11 fun w15 =>
  St ⟨k4, 1, none⟩ (.int .i64 0) w15 fun w16 =>
  St ⟨k4, 2, none⟩ (.slice none 0 0) w16 fun w17 =>
  ∃ nr4_0_2 : Int, ∃ nr4_1_2 : Int, ∃ (pr4_2_2 : Option Addr) (lr4_2_2 cr4_2_2 : Nat), (w17.cell? ⟨k4, 0, none⟩ = some (.int .u64 nr4_0_2) ∧ w17.cell? ⟨k4, 1, none⟩ = some (.int .i64 nr4_1_2) ∧ w17.cell? ⟨k4, 2, none⟩ = some (.slice pr4_2_2 lr4_2_2 cr4_2_2)) ∧
  R (.tuple #[.agg #[.int .u64 nr4_0_2, .int .i64 nr4_1_2, .slice pr4_2_2 lr4_2_2 cr4_2_2], .bool false]) w17) ∧
  ((n41 != n1) = false →
  ∃ (p47 : Option Addr) (l47 c47 : Nat), w11.cell? ⟨k9, 2, none⟩ = some (.slice p47 l47 c47) ∧
  LoopP (fun I => I [.slice none 0 0, .int .i64 0] w11) fun K vs w18 => ∃ (p11 : Option Addr) (l11 c11 : Nat), ∃ n49 : Int, vs = [.slice p11 l11 c11, .int .i64 n49] ∧
  ((decide (n49 < (l47 : Int))) = true →
  ∃ a54 : Addr, p0 = some a54 ∧
  ∃ p56 : Option Addr, w18.cell? a54 = some (.pointer p56) ∧
  Calls Try.prog 29 #[.pointer p56, .int .i64 (IntKind.i64.wrap ((IntKind.i64.wrap (n18 + 1)) + n49))] w18 fun e_3 w19 => ∃ s61_0 : ByteArray, ∃ n61_1 : Int, e_3 = .returned (.tuple #[.string s61_0, .int .i64 n61_1]) ∧
  ((n61_1 != 0) = true →
  St ⟨k4, 0, none⟩ (.int .u64 0) w19 fun w20 =>
  St ⟨k4, 1, none⟩ (.int .i64 0) w20 fun w21 =>
  St ⟨k4, 2, none⟩ (.slice none 0 0) w21 fun w22 =>
  ∃ nr4_0_3 : Int, ∃ nr4_1_3 : Int, ∃ (pr4_2_3 : Option Addr) (lr4_2_3 cr4_2_3 : Nat), (w22.cell? ⟨k4, 0, none⟩ = some (.int .u64 nr4_0_3) ∧ w22.cell? ⟨k4, 1, none⟩ = some (.int .i64 nr4_1_3) ∧ w22.cell? ⟨k4, 2, none⟩ = some (.slice pr4_2_3 lr4_2_3 cr4_2_3)) ∧
  R (.tuple #[.agg #[.int .u64 nr4_0_3, .int .i64 nr4_1_3, .slice pr4_2_3 lr4_2_3 cr4_2_3], .bool false]) w22) ∧
  ((n61_1 != 0) = false →
  Alloc #[.string s61_0] 9 w19 fun k69 w23 =>
  ∃ (p70 : Option Addr) (l70 c70 : Nat), ∃ w24, (builtin .append #[23, 23] 23 #[false, false] #[.slice p11 l11 c11, .slice (some ⟨k69, 0, none⟩) 1 1]).run Try.prog w23 = .ok (.value (.slice p70 l70 c70)) w24 ∧
  K [.slice p70 l70 c70, .int .i64 (IntKind.i64.wrap (n49 + 1))] w24)) ∧
  ((decide (n49 < (l47 : Int))) = false →
  Calls Try.prog 59 #[.string s25_0, .slice p11 l11 c11] w18 fun e_4 w25 => ∃ n75_0_0 : Int, ∃ n75_0_1 : Int, ∃ (p75_0_2 : Option Addr) (l75_0_2 c75_0_2 : Nat), ∃ n75_1 : Int, e_4 = .returned (.tuple #[.agg #[.int .u64 n75_0_0, .int .i64 n75_0_1, .slice p75_0_2 l75_0_2 c75_0_2], .int .i64 n75_1]) ∧
  Alloc #[.int .u64 0, .int .i64 0, .slice none 0 0] 46 w25 fun k15 w26 =>
  St ⟨k15, 0, none⟩ (.int .u64 n75_0_0) w26 fun w27 =>
  St ⟨k15, 1, none⟩ (.int .i64 n75_0_1) w27 fun w28 =>
  St ⟨k15, 2, none⟩ (.slice p75_0_2 l75_0_2 c75_0_2) w28 fun w29 =>
  ∃ n78_0 : Int, ∃ n78_1 : Int, ∃ (p78_2 : Option Addr) (l78_2 c78_2 : Nat), (w29.cell? ⟨k15, 0, none⟩ = some (.int .u64 n78_0) ∧ w29.cell? ⟨k15, 1, none⟩ = some (.int .i64 n78_1) ∧ w29.cell? ⟨k15, 2, none⟩ = some (.slice p78_2 l78_2 c78_2)) ∧
  St ⟨k4, 0, none⟩ (.int .u64 n78_0) w29 fun w30 =>
  St ⟨k4, 1, none⟩ (.int .i64 n78_1) w30 fun w31 =>
  St ⟨k4, 2, none⟩ (.slice p78_2 l78_2 c78_2) w31 fun w32 =>
  ∃ nr4_0_4 : Int, ∃ nr4_1_4 : Int, ∃ (pr4_2_4 : Option Addr) (lr4_2_4 cr4_2_4 : Nat), (w32.cell? ⟨k4, 0, none⟩ = some (.int .u64 nr4_0_4) ∧ w32.cell? ⟨k4, 1, none⟩ = some (.int .i64 nr4_1_4) ∧ w32.cell? ⟨k4, 2, none⟩ = some (.slice pr4_2_4 lr4_2_4 cr4_2_4)) ∧
  R (.tuple #[.agg #[.int .u64 nr4_0_4, .int .i64 nr4_1_4, .slice pr4_2_4 lr4_2_4 cr4_2_4], .bool (n75_1 == 0)]) w32))))
theorem ring_Ring_record_eq (p0 : Option Addr) (n1 : Int) (w : World) (R : Value → World → Prop) : ring_Ring_record p0 n1 w R = fnP Try.prog Try.f32 (.s .o (.s .o (.s .o (.s .o (.s .o (.s .o (.s .o (.s (.s .o (.b (.l [(11, .one .slice), (49, .one (.int .i64))] .o))) .o)))))))) [.pointer p0, .int .u64 n1] w R := by kernel_rfl
theorem ring_Ring_record_calls {p0 : Option Addr} {n1 : Int} {w : World} {R : Value → World → Prop} (h : ring_Ring_record p0 n1 w R) : Calls Try.prog 32 #[.pointer p0, .int .u64 n1] w fun e w1 => ∃ v, e = .returned v ∧ R v w1 := fnP_calls callable Try.func32 (ring_Ring_record_eq p0 n1 w R ▸ h)

/-- (*revetment/ring.Ring).first -/
def ring_Ring_first (p0 : Option Addr) (n1 : Int) (w : World) (R : Value → World → Prop) : Prop :=
  ∃ a7 : Addr, p0 = some a7 ∧
  ∃ n9 : Int, w.cell? (a7.add 1) = some (.int .i64 n9) ∧
  (IntKind.u64.wrap n9) ≠ 0 ∧
  R (.int .i64 (IntKind.i64.wrap (4 + (IntKind.i64.wrap (41 * (IntKind.i64.wrap (Int.tmod n1 (IntKind.u64.wrap n9)))))))) w
theorem ring_Ring_first_eq (p0 : Option Addr) (n1 : Int) (w : World) (R : Value → World → Prop) : ring_Ring_first p0 n1 w R = fnP Try.prog Try.f33 .o [.pointer p0, .int .u64 n1] w R := by kernel_rfl
theorem ring_Ring_first_calls {p0 : Option Addr} {n1 : Int} {w : World} {R : Value → World → Prop} (h : ring_Ring_first p0 n1 w R) : Calls Try.prog 33 #[.pointer p0, .int .u64 n1] w fun e w1 => ∃ v, e = .returned v ∧ R v w1 := fnP_calls callable Try.func33 (ring_Ring_first_eq p0 n1 w R ▸ h)

/-- revetment/revetmentlaw13.full -/
def revetmentlaw13_full (s0 : ByteArray) (w : World) (R : Value → World → Prop) : Prop :=
  Calls Try.prog 60 #[] w fun e w1 => ∃ s4 : ByteArray, e = .returned (.string s4) ∧
  ((s0.size + s4.size : Nat) : Int) ≤ 9223372036854775807 ∧
  ∃ s6 : ByteArray, ∃ w2, (Instr.sliceAt 9 (.string (s0 ++ s4)) none (some (.int .i64 64)) none).run Try.prog w1 = .ok (.string s6) w2 ∧
  R (.string s6) w2
theorem revetmentlaw13_full_eq (s0 : ByteArray) (w : World) (R : Value → World → Prop) : revetmentlaw13_full s0 w R = fnP Try.prog Try.f34 .o [.string s0] w R := by kernel_rfl
theorem revetmentlaw13_full_calls {s0 : ByteArray} {w : World} {R : Value → World → Prop} (h : revetmentlaw13_full s0 w R) : Calls Try.prog 34 #[.string s0] w fun e w1 => ∃ v, e = .returned v ∧ R v w1 := fnP_calls callable Try.func34 (revetmentlaw13_full_eq s0 w R ▸ h)

/-- revetment/record.May -/
def record_May (n0_0 : Int) (n0_1 : Int) (p0_2 : Option Addr) (l0_2 c0_2 : Nat) (w : World) (R : Value → World → Prop) : Prop :=
  Alloc #[.int .u64 n0_0, .int .i64 n0_1, .slice p0_2 l0_2 c0_2] 46 w fun k1 w1 =>
  ∃ n3_0 : Int, ∃ n3_1 : Int, ∃ (p3_2 : Option Addr) (l3_2 c3_2 : Nat), (w1.cell? ⟨k1, 0, none⟩ = some (.int .u64 n3_0) ∧ w1.cell? ⟨k1, 1, none⟩ = some (.int .i64 n3_1) ∧ w1.cell? ⟨k1, 2, none⟩ = some (.slice p3_2 l3_2 c3_2)) ∧
  Calls Try.prog 61 #[.agg #[.int .u64 n3_0, .int .i64 n3_1, .slice p3_2 l3_2 c3_2]] w1 fun e w2 => ∃ b4 : Bool, e = .returned (.bool b4) ∧
  (b4 = true →
  ∃ n6_0 : Int, ∃ n6_1 : Int, ∃ (p6_2 : Option Addr) (l6_2 c6_2 : Nat), (w2.cell? ⟨k1, 0, none⟩ = some (.int .u64 n6_0) ∧ w2.cell? ⟨k1, 1, none⟩ = some (.int .i64 n6_1) ∧ w2.cell? ⟨k1, 2, none⟩ = some (.slice p6_2 l6_2 c6_2)) ∧
  Calls Try.prog 62 #[.agg #[.int .u64 n6_0, .int .i64 n6_1, .slice p6_2 l6_2 c6_2]] w2 fun e_1 w3 => ∃ b7 : Bool, e_1 = .returned (.bool b7) ∧
  R (.bool b7) w3) ∧
  (b4 = false →
  R (.bool false) w2)
theorem record_May_eq (n0_0 : Int) (n0_1 : Int) (p0_2 : Option Addr) (l0_2 c0_2 : Nat) (w : World) (R : Value → World → Prop) : record_May n0_0 n0_1 p0_2 l0_2 c0_2 w R = fnP Try.prog Try.f35 .o [.agg #[.int .u64 n0_0, .int .i64 n0_1, .slice p0_2 l0_2 c0_2]] w R := by kernel_rfl
theorem record_May_calls {n0_0 : Int} {n0_1 : Int} {p0_2 : Option Addr} {l0_2 c0_2 : Nat} {w : World} {R : Value → World → Prop} (h : record_May n0_0 n0_1 p0_2 l0_2 c0_2 w R) : Calls Try.prog 35 #[.agg #[.int .u64 n0_0, .int .i64 n0_1, .slice p0_2 l0_2 c0_2]] w fun e w1 => ∃ v, e = .returned v ∧ R v w1 := fnP_calls callable Try.func35 (record_May_eq n0_0 n0_1 p0_2 l0_2 c0_2 w R ▸ h)

/-- (revetment/record.Record).head -/
def record_Record_head (n0_0 : Int) (n0_1 : Int) (p0_2 : Option Addr) (l0_2 c0_2 : Nat) (n1 : Int) (w : World) (R : Value → World → Prop) : Prop :=
  Alloc #[.int .u64 n0_0, .int .i64 n0_1, .slice p0_2 l0_2 c0_2] 46 w fun k2 w1 =>
  Alloc #[.pointer none, .slice none 0 0] 103 w1 fun k5 w2 =>
  Calls Try.prog 49 #[.pointer (some ⟨k5, 0, none⟩), .string (ByteArray.mk #[82, 86, 84, 74])] w2 fun e w3 => ∃ n10_0 : Int, ∃ v10_1 : Value, e = .returned (.tuple #[.int .i64 n10_0, v10_1]) ∧
  ∃ n12 : Int, w3.cell? ⟨k2, 0, none⟩ = some (.int .u64 n12) ∧
  ∃ n14 : Int, w3.cell? ⟨k2, 1, none⟩ = some (.int .i64 n14) ∧
  ∃ (p17 : Option Addr) (l17 c17 : Nat), w3.cell? ⟨k2, 2, none⟩ = some (.slice p17 l17 c17) ∧
  Alloc #[.int .u64 n12, .int .u64 8, .int .u64 (IntKind.u64.wrap n14), .int .u64 2, .int .u64 (IntKind.u64.wrap (l17 : Int)), .int .u64 1, .int .u64 (IntKind.u64.wrap n1), .int .u64 4] 34 w3 fun k22 w4 =>
  Calls Try.prog 63 #[.slice (some ⟨k22, 0, none⟩) 8 8] w4 fun e_1 w5 => ∃ s23 : ByteArray, e_1 = .returned (.string s23) ∧
  Calls Try.prog 49 #[.pointer (some ⟨k5, 0, none⟩), .string s23] w5 fun e_2 w6 => ∃ n24_0 : Int, ∃ v24_1 : Value, e_2 = .returned (.tuple #[.int .i64 n24_0, v24_1]) ∧
  ∃ (p26 : Option Addr) (l26 c26 : Nat), w6.cell? ⟨k2, 2, none⟩ = some (.slice p26 l26 c26) ∧
  LoopP (fun I => I [.int .i64 0] w6) fun K vs w7 => ∃ n28 : Int, vs = [.int .i64 n28] ∧
  ((decide (n28 < (l26 : Int))) = true →
  ∃ a30 : Addr, p26 = some a30 ∧ (0 : Int) ≤ n28 ∧ n28 < (l26 : Int) ∧
  ∃ n31_0 : Int, ∃ n31_1 : Int, ∃ s31_2 : ByteArray, (w7.cell? (Addr.add a30 (n28.toNat * 3)) = some (.int .i64 n31_0) ∧ w7.cell? (Addr.add (Addr.add a30 (n28.toNat * 3)) 1) = some (.int .i64 n31_1) ∧ w7.cell? (Addr.add (Addr.add a30 (n28.toNat * 3)) 2) = some (.string s31_2)) ∧
  Alloc #[.int .i64 0, .int .i64 0, .string (ByteArray.mk #[])] 84 w7 fun k7 w8 =>
  St ⟨k7, 0, none⟩ (.int .i64 n31_0) w8 fun w9 =>
  St ⟨k7, 1, none⟩ (.int .i64 n31_1) w9 fun w10 =>
  St ⟨k7, 2, none⟩ (.string s31_2) w10 fun w11 =>
  ∃ n33 : Int, w11.cell? ⟨k7, 0, none⟩ = some (.int .i64 n33) ∧
  ∃ n36 : Int, w11.cell? ⟨k7, 1, none⟩ = some (.int .i64 n36) ∧
  Calls Try.prog 64 #[.pointer (some ⟨k5, 0, none⟩), .int .u8 (IntKind.u8.wrap (bits2 .or .i64 (IntKind.i64.wrap (n33 * 2 ^ 2)) n36))] w11 fun e_3 w12 => ∃ v39 : Value, e_3 = .returned v39 ∧
  K [.int .i64 (IntKind.i64.wrap (n28 + 1))] w12) ∧
  ((decide (n28 < (l26 : Int))) = false →
  Calls Try.prog 51 #[.pointer (some ⟨k5, 0, none⟩)] w7 fun e_4 w13 => ∃ s42 : ByteArray, e_4 = .returned (.string s42) ∧
  Calls Try.prog 53 #[.string s42, .int .i64 64] w13 fun e_5 w14 => ∃ s43_0 : ByteArray, ∃ b43_1 : Bool, e_5 = .returned (.tuple #[.string s43_0, .bool b43_1]) ∧
  R (.string s43_0) w14)
theorem record_Record_head_eq (n0_0 : Int) (n0_1 : Int) (p0_2 : Option Addr) (l0_2 c0_2 : Nat) (n1 : Int) (w : World) (R : Value → World → Prop) : record_Record_head n0_0 n0_1 p0_2 l0_2 c0_2 n1 w R = fnP Try.prog Try.f36 (.s .o (.s .o (.s .o (.s .o (.s (.s .o (.b (.l [(28, .one (.int .i64))] .o))) .o))))) [.agg #[.int .u64 n0_0, .int .i64 n0_1, .slice p0_2 l0_2 c0_2], .int .u32 n1] w R := by kernel_rfl
theorem record_Record_head_calls {n0_0 : Int} {n0_1 : Int} {p0_2 : Option Addr} {l0_2 c0_2 : Nat} {n1 : Int} {w : World} {R : Value → World → Prop} (h : record_Record_head n0_0 n0_1 p0_2 l0_2 c0_2 n1 w R) : Calls Try.prog 36 #[.agg #[.int .u64 n0_0, .int .i64 n0_1, .slice p0_2 l0_2 c0_2], .int .u32 n1] w fun e w1 => ∃ v, e = .returned v ∧ R v w1 := fnP_calls callable Try.func36 (record_Record_head_eq n0_0 n0_1 p0_2 l0_2 c0_2 n1 w R ▸ h)

/-- revetment/crc.Sum -/
def crc_Sum (s0 : ByteArray) (w : World) (R : Value → World → Prop) : Prop :=
  Calls Try.prog 65 #[.int .u32 0, .string s0] w fun e w1 => ∃ n4 : Int, e = .returned (.int .u32 n4) ∧
  R (.int .u32 n4) w1
theorem crc_Sum_eq (s0 : ByteArray) (w : World) (R : Value → World → Prop) : crc_Sum s0 w R = fnP Try.prog Try.f37 .o [.string s0] w R := by kernel_rfl
theorem crc_Sum_calls {s0 : ByteArray} {w : World} {R : Value → World → Prop} (h : crc_Sum s0 w R) : Calls Try.prog 37 #[.string s0] w fun e w1 => ∃ v, e = .returned v ∧ R v w1 := fnP_calls callable Try.func37 (crc_Sum_eq s0 w R ▸ h)

/-- strings.Join -/
def strings_Join (p0 : Option Addr) (l0 c0 : Nat) (s1 : ByteArray) (w : World) (R : Value → World → Prop) : Prop :=
  (((l0 : Int) == 0) = true →
  R (.string (ByteArray.mk #[])) w) ∧
  (((l0 : Int) == 0) = false →
  (((l0 : Int) == 1) = true →
  ∃ a18 : Addr, p0 = some a18 ∧ (0 : Int) ≤ 0 ∧ 0 < (l0 : Int) ∧
  ∃ s19 : ByteArray, w.cell? a18 = some (.string s19) ∧
  R (.string s19) w) ∧
  (((l0 : Int) == 1) = false →
  Join (fun vs w1 => ∃ n5 : Int, vs = [.int .i64 n5] ∧
  LoopP (fun I => I [.int .i64 n5, .int .i64 0] w1) fun K vs_1 w2 => ∃ n5_1 : Int, ∃ n41 : Int, vs_1 = [.int .i64 n5_1, .int .i64 n41] ∧
  ((decide (n41 < (l0 : Int))) = true →
  ∃ a43 : Addr, p0 = some a43 ∧ (0 : Int) ≤ n41 ∧ n41 < (l0 : Int) ∧
  ∃ s44 : ByteArray, w2.cell? (Addr.add a43 (n41.toNat * 1)) = some (.string s44) ∧
  ((decide ((s44.size : Int) > (IntKind.i64.wrap (9223372036854775807 - n5_1)))) = true →
  False) ∧
  ((decide ((s44.size : Int) > (IntKind.i64.wrap (9223372036854775807 - n5_1)))) = false →
  K [.int .i64 (IntKind.i64.wrap (n5_1 + (s44.size : Int))), .int .i64 (IntKind.i64.wrap (n41 + 1))] w2)) ∧
  ((decide (n41 < (l0 : Int))) = false →
  Alloc #[.pointer none, .slice none 0 0] 103 w2 fun k8 w3 =>
  Calls Try.prog 48 #[.pointer (some ⟨k8, 0, none⟩), .int .i64 n5_1] w3 fun e w4 => e = .returned (.tuple #[]) ∧
  ∃ a59 : Addr, p0 = some a59 ∧ (0 : Int) ≤ 0 ∧ 0 < (l0 : Int) ∧
  ∃ s60 : ByteArray, w4.cell? a59 = some (.string s60) ∧
  Calls Try.prog 49 #[.pointer (some ⟨k8, 0, none⟩), .string s60] w4 fun e_1 w5 => ∃ n61_0 : Int, ∃ v61_1 : Value, e_1 = .returned (.tuple #[.int .i64 n61_0, v61_1]) ∧
  ∃ (p63 : Option Addr) (l63 c63 : Nat), ∃ w6, (Instr.sliceAt 23 (.slice p0 l0 c0) (some (.int .i64 1)) none none).run Try.prog w5 = .ok (.slice p63 l63 c63) w6 ∧
  LoopP (fun I_1 => I_1 [.int .i64 0] w6) fun K_1 vs_2 w7 => ∃ n65 : Int, vs_2 = [.int .i64 n65] ∧
  ((decide (n65 < (l63 : Int))) = true →
  ∃ a67 : Addr, p63 = some a67 ∧ (0 : Int) ≤ n65 ∧ n65 < (l63 : Int) ∧
  ∃ s68 : ByteArray, w7.cell? (Addr.add a67 (n65.toNat * 1)) = some (.string s68) ∧
  Calls Try.prog 49 #[.pointer (some ⟨k8, 0, none⟩), .string s1] w7 fun e_2 w8 => ∃ n70_0 : Int, ∃ v70_1 : Value, e_2 = .returned (.tuple #[.int .i64 n70_0, v70_1]) ∧
  Calls Try.prog 49 #[.pointer (some ⟨k8, 0, none⟩), .string s68] w8 fun e_3 w9 => ∃ n72_0 : Int, ∃ v72_1 : Value, e_3 = .returned (.tuple #[.int .i64 n72_0, v72_1]) ∧
  K_1 [.int .i64 (IntKind.i64.wrap (n65 + 1))] w9) ∧
  ((decide (n65 < (l63 : Int))) = false →
  Calls Try.prog 51 #[.pointer (some ⟨k8, 0, none⟩)] w7 fun e_4 w10 => ∃ s74 : ByteArray, e_4 = .returned (.string s74) ∧
  R (.string s74) w10))) fun J =>
  ((decide ((s1.size : Int) > 0)) = true →
  (IntKind.i64.wrap ((l0 : Int) - 1)) ≠ 0 ∧
  ((decide ((s1.size : Int) ≥ (IntKind.i64.wrap (Int.tdiv 9223372036854775807 (IntKind.i64.wrap ((l0 : Int) - 1)))))) = true →
  False) ∧
  ((decide ((s1.size : Int) ≥ (IntKind.i64.wrap (Int.tdiv 9223372036854775807 (IntKind.i64.wrap ((l0 : Int) - 1)))))) = false →
  J [.int .i64 (IntKind.i64.wrap (0 + (IntKind.i64.wrap ((s1.size : Int) * (IntKind.i64.wrap ((l0 : Int) - 1))))))] w)) ∧
  ((decide ((s1.size : Int) > 0)) = false →
  J [.int .i64 0] w)))
theorem strings_Join_eq (p0 : Option Addr) (l0 c0 : Nat) (s1 : ByteArray) (w : World) (R : Value → World → Prop) : strings_Join p0 l0 c0 s1 w R = fnP Try.prog Try.f38 (.s .o (.s .o (.s .o (.j [(5, .one (.int .i64))] .o (.s (.s .o (.b (.l [(5, .one (.int .i64)), (41, .one (.int .i64))] .o))) (.s .o (.s .o (.s .o (.s (.s .o (.b (.l [(65, .one (.int .i64))] .o))) .o))))))))) [.slice p0 l0 c0, .string s1] w R := by kernel_rfl
theorem strings_Join_calls {p0 : Option Addr} {l0 c0 : Nat} {s1 : ByteArray} {w : World} {R : Value → World → Prop} (h : strings_Join p0 l0 c0 s1 w R) : Calls Try.prog 38 #[.slice p0 l0 c0, .string s1] w fun e w1 => ∃ v, e = .returned v ∧ R v w1 := fnP_calls callable Try.func38 (strings_Join_eq p0 l0 c0 s1 w R ▸ h)

/-- revetment/ring.written$1 -/
def ring_written_1 (k0 : Addr) (k1 : Addr) (k2 : Addr) (w : World) (R : Value → World → Prop) : Prop :=
  ∃ p4 : Option Addr, w.cell? k0 = some (.pointer p4) ∧
  ∃ n5 : Int, w.cell? k1 = some (.int .i64 n5) ∧
  ∃ s6 : ByteArray, w.cell? k2 = some (.string s6) ∧
  Calls Try.prog 18 #[.pointer p4, .int .i64 n5, .string s6] w fun e w1 => ∃ n7 : Int, e = .returned (.int .i64 n7) ∧
  R (.int .i64 n7) w1
theorem ring_written_1_eq (k0 : Addr) (k1 : Addr) (k2 : Addr) (w : World) (R : Value → World → Prop) : ring_written_1 k0 k1 k2 w R = fnP Try.prog Try.f45 .o [.pointer (some k0), .pointer (some k1), .pointer (some k2)] w R := by kernel_rfl
theorem ring_written_1_calls {k0 : Addr} {k1 : Addr} {k2 : Addr} {w : World} {R : Value → World → Prop} (h : ring_written_1 k0 k1 k2 w R) : Calls Try.prog 45 #[.pointer (some k0), .pointer (some k1), .pointer (some k2)] w fun e w1 => ∃ v, e = .returned v ∧ R v w1 := fnP_calls callable Try.func45 (ring_written_1_eq k0 k1 k2 w R ▸ h)

/-- strings.HasPrefix -/
def strings_HasPrefix (s0 : ByteArray) (s1 : ByteArray) (w : World) (R : Value → World → Prop) : Prop :=
  Calls Try.prog 70 #[.string s0, .string s1] w fun e w1 => ∃ b7 : Bool, e = .returned (.bool b7) ∧
  R (.bool b7) w1
theorem strings_HasPrefix_eq (s0 : ByteArray) (s1 : ByteArray) (w : World) (R : Value → World → Prop) : strings_HasPrefix s0 s1 w R = fnP Try.prog Try.f47 .o [.string s0, .string s1] w R := by kernel_rfl
theorem strings_HasPrefix_calls {s0 : ByteArray} {s1 : ByteArray} {w : World} {R : Value → World → Prop} (h : strings_HasPrefix s0 s1 w R) : Calls Try.prog 47 #[.string s0, .string s1] w fun e w1 => ∃ v, e = .returned v ∧ R v w1 := fnP_calls callable Try.func47 (strings_HasPrefix_eq s0 s1 w R ▸ h)

/-- revetment/pack.Encode -/
def pack_Encode (p0 : Option Addr) (l0 c0 : Nat) (p1 : Option Addr) (l1 c1 : Nat) (w : World) (R : Value → World → Prop) : Prop :=
  Alloc #[.slice p0 l0 c0] 75 w fun k2 w1 =>
  Calls Try.prog 56 #[.slice p1 l1 c1] w1 fun e w2 => ∃ n15_0 : Int, ∃ n15_1 : Int, e = .returned (.tuple #[.int .i64 n15_0, .int .i64 n15_1]) ∧
  ((n15_1 != 0) = true →
  R (.tuple #[.string (ByteArray.mk #[]), .int .i64 n15_1]) w2) ∧
  ((n15_1 != 0) = false →
  ∃ (p23 : Option Addr) (l23 c23 : Nat), w2.cell? ⟨k2, 0, none⟩ = some (.slice p23 l23 c23) ∧
  (((l23 : Int) != (l1 : Int)) = true →
  R (.tuple #[.string (ByteArray.mk #[]), .int .i64 1]) w2) ∧
  (((l23 : Int) != (l1 : Int)) = false →
  LoopP (fun I => I [.string (ByteArray.mk #[]), .int .i64 0, .int .i64 0] w2) fun K vs w3 => ∃ s4 : ByteArray, ∃ n5 : Int, ∃ n30 : Int, vs = [.string s4, .int .i64 n5, .int .i64 n30] ∧
  ((decide (n30 < (l1 : Int))) = true →
  ∃ a33 : Addr, p1 = some a33 ∧ (0 : Int) ≤ n30 ∧ n30 < (l1 : Int) ∧
  ∃ n34 : Int, w3.cell? (Addr.add a33 (n30.toNat * 1)) = some (.int .i64 n34) ∧
  ∃ (p35 : Option Addr) (l35 c35 : Nat), w3.cell? ⟨k2, 0, none⟩ = some (.slice p35 l35 c35) ∧
  ∃ a37 : Addr, p35 = some a37 ∧ (0 : Int) ≤ n30 ∧ n30 < (l35 : Int) ∧
  ∃ n38 : Int, w3.cell? (Addr.add a37 (n30.toNat * 1)) = some (.int .u64 n38) ∧
  Calls Try.prog 73 #[.int .u64 n38, .int .i64 n34] w3 fun e_1 w4 => ∃ b40 : Bool, e_1 = .returned (.bool b40) ∧
  ((!b40) = true →
  R (.tuple #[.string (ByteArray.mk #[]), .int .i64 30]) w4) ∧
  ((!b40) = false →
  K [.string s4, .int .i64 n5, .int .i64 (IntKind.i64.wrap (n30 + 1))] w4)) ∧
  ((decide (n30 < (l1 : Int))) = false →
  ∃ (p44 : Option Addr) (l44 c44 : Nat), ∃ w5, (Instr.makeSlice 22 (.int .i64 0) (.int .i64 n15_0)).run Try.prog w3 = .ok (.slice p44 l44 c44) w5 ∧
  Alloc #[.slice none 0 0] 22 w5 fun k10 w6 =>
  St ⟨k10, 0, none⟩ (.slice p44 l44 c44) w6 fun w7 =>
  Calls Try.prog 57 #[.slice p1 l1 c1] w7 fun e_2 w8 => ∃ v46 : Value, e_2 = .returned v46 ∧
  RangeP Try.prog v46 (fun ob l args W Φ => ∃ n47 : Int, ∃ n48 : Int, args = [.int .i64 n47, .int .i64 n48] ∧
  RoundP ob l Φ (fun K_1 X R w9 =>
  ∃ D : World → Prop, D w9.drew ∧
  ∃ (p49 : Option Addr) (l49 c49 : Nat), (∀ w, D w → w.cell? ⟨k10, 0, none⟩ = some (.slice p49 l49 c49)) ∧
  ∃ (p50 : Option Addr) (l50 c50 : Nat), (∀ w, D w → w.cell? ⟨k2, 0, none⟩ = some (.slice p50 l50 c50)) ∧
  ∃ a52 : Addr, p50 = some a52 ∧ (0 : Int) ≤ n47 ∧ n47 < (l50 : Int) ∧
  ∃ n53 : Int, (∀ w, D w → w.cell? (Addr.add a52 (n47.toNat * 1)) = some (.int .u64 n53)) ∧
  (0 : Int) ≤ n48 ∧
  Alloc #[.int .u8 (IntKind.u8.wrap (Int.fdiv n53 (2 ^ (min n48.toNat 64))))] 5 w9.drew fun k57 w10 =>
  D w10 ∧
  ∃ (p58 : Option Addr) (l58 c58 : Nat), ∃ w11, (builtin .append #[22, 22] 22 #[false, false] #[.slice p49 l49 c49, .slice (some ⟨k57, 0, none⟩) 1 1]).run Try.prog w10 = .ok (.value (.slice p58 l58 c58)) w11 ∧
  D w11 ∧
  St ⟨k10, 0, none⟩ (.slice p58 l58 c58) w11 fun w12 =>
  K_1 w12) W) []
  (fun d w13 =>
  ∃ (p59 : Option Addr) (l59 c59 : Nat), w13.cell? ⟨k10, 0, none⟩ = some (.slice p59 l59 c59) ∧
  ∃ s60 : ByteArray, ∃ w14, (convert 22 9 (.slice p59 l59 c59)).run Try.prog w13 = .ok (.string s60) w14 ∧
  w14.heap[d]? = some (.deferred (some [])) ∧
  R (.tuple #[.string s60, .int .i64 0]) (w14.putObj d (.deferred none)))
  (fun d_1 w15 =>
  w15.heap[d_1]? = some (.deferred (some [])) ∧
  R (.tuple #[.string s4, .int .i64 n5]) (w15.putObj d_1 (.deferred none))) w8)))
theorem pack_Encode_eq (p0 : Option Addr) (l0 c0 : Nat) (p1 : Option Addr) (l1 c1 : Nat) (w : World) (R : Value → World → Prop) : pack_Encode p0 l0 c0 p1 l1 c1 w R = fnP Try.prog Try.f52 (.s .o (.s .o (.s .o (.s (.s .o (.b (.l [(4, .one .str), (5, .one (.int .i64)), (30, .one (.int .i64))] .o))) (.s .o (.s (.s .o (.b (.rf [(47, .one (.int .i64)), (48, .one (.int .i64))] .o))) .o)))))) [.slice p0 l0 c0, .slice p1 l1 c1] w R := by kernel_rfl
theorem pack_Encode_calls {p0 : Option Addr} {l0 c0 : Nat} {p1 : Option Addr} {l1 c1 : Nat} {w : World} {R : Value → World → Prop} (h : pack_Encode p0 l0 c0 p1 l1 c1 w R) : Calls Try.prog 52 #[.slice p0 l0 c0, .slice p1 l1 c1] w fun e w1 => ∃ v, e = .returned v ∧ R v w1 := fnP_calls callable Try.func52 (pack_Encode_eq p0 l0 c0 p1 l1 c1 w R ▸ h)

/-- revetment/crc.Seal -/
def crc_Seal (s0 : ByteArray) (n1 : Int) (w : World) (R : Value → World → Prop) : Prop :=
  ((decide (n1 < 4)) = true →
  R (.tuple #[.string (ByteArray.mk #[]), .bool false]) w) ∧
  ((decide (n1 < 4)) = false →
  ((decide (n1 > 4096)) = true →
  R (.tuple #[.string (ByteArray.mk #[]), .bool false]) w) ∧
  ((decide (n1 > 4096)) = false →
  ((decide ((s0.size : Int) > (IntKind.i64.wrap (n1 - 4)))) = true →
  R (.tuple #[.string (ByteArray.mk #[]), .bool false]) w) ∧
  ((decide ((s0.size : Int) > (IntKind.i64.wrap (n1 - 4)))) = false →
  ∃ (p22 : Option Addr) (l22 c22 : Nat), ∃ w1, (Instr.makeSlice 22 (.int .i64 (IntKind.i64.wrap (n1 - 4))) (.int .i64 (IntKind.i64.wrap (n1 - 4)))).run Try.prog w = .ok (.slice p22 l22 c22) w1 ∧
  ∃ n25 : Int, ∃ w2, (builtin .copy #[22, 9] 3 #[false, false] #[.slice p22 l22 c22, .string s0]).run Try.prog w1 = .ok (.value (.int .i64 n25)) w2 ∧
  ∃ s28 : ByteArray, ∃ w3, (convert 22 9 (.slice p22 l22 c22)).run Try.prog w2 = .ok (.string s28) w3 ∧
  Calls Try.prog 37 #[.string s28] w3 fun e w4 => ∃ n29 : Int, e = .returned (.int .u32 n29) ∧
  Calls Try.prog 55 #[.int .u32 n29] w4 fun e_1 w5 => ∃ (p30 : Option Addr) (l30 c30 : Nat), e_1 = .returned (.slice p30 l30 c30) ∧
  ∃ (p31 : Option Addr) (l31 c31 : Nat), ∃ w6, (builtin .append #[22, 22] 22 #[false, false] #[.slice p22 l22 c22, .slice p30 l30 c30]).run Try.prog w5 = .ok (.value (.slice p31 l31 c31)) w6 ∧
  ∃ s32 : ByteArray, ∃ w7, (convert 22 9 (.slice p31 l31 c31)).run Try.prog w6 = .ok (.string s32) w7 ∧
  R (.tuple #[.string s32, .bool true]) w7)))
theorem crc_Seal_eq (s0 : ByteArray) (n1 : Int) (w : World) (R : Value → World → Prop) : crc_Seal s0 n1 w R = fnP Try.prog Try.f53 .o [.string s0, .int .i64 n1] w R := by kernel_rfl
theorem crc_Seal_calls {s0 : ByteArray} {n1 : Int} {w : World} {R : Value → World → Prop} (h : crc_Seal s0 n1 w R) : Calls Try.prog 53 #[.string s0, .int .i64 n1] w fun e w1 => ∃ v, e = .returned v ∧ R v w1 := fnP_calls callable Try.func53 (crc_Seal_eq s0 n1 w R ▸ h)

/-- revetment/crc.bytes -/
def crc_bytes (n0 : Int) (w : World) (R : Value → World → Prop) : Prop :=
  Alloc #[.int .u8 (IntKind.u8.wrap n0), .int .u8 (IntKind.u8.wrap (Int.fdiv n0 (2 ^ 8))), .int .u8 (IntKind.u8.wrap (Int.fdiv n0 (2 ^ 16))), .int .u8 (IntKind.u8.wrap (Int.fdiv n0 (2 ^ 24)))] 5 w fun k14 w1 =>
  R (.slice (some ⟨k14, 0, none⟩) 4 4) w1
theorem crc_bytes_eq (n0 : Int) (w : World) (R : Value → World → Prop) : crc_bytes n0 w R = fnP Try.prog Try.f55 .o [.int .u32 n0] w R := by kernel_rfl
theorem crc_bytes_calls {n0 : Int} {w : World} {R : Value → World → Prop} (h : crc_bytes n0 w R) : Calls Try.prog 55 #[.int .u32 n0] w fun e w1 => ∃ v, e = .returned v ∧ R v w1 := fnP_calls callable Try.func55 (crc_bytes_eq n0 w R ▸ h)

/-- revetment/pack.Size -/
def pack_Size (p0 : Option Addr) (l0 c0 : Nat) (w : World) (R : Value → World → Prop) : Prop :=
  LoopP (fun I => I [.int .i64 0, .int .i64 0] w) fun K vs w1 => ∃ n4 : Int, ∃ n9 : Int, vs = [.int .i64 n4, .int .i64 n9] ∧
  ((decide (n9 < (l0 : Int))) = true →
  ∃ a11 : Addr, p0 = some a11 ∧ (0 : Int) ≤ n9 ∧ n9 < (l0 : Int) ∧
  ∃ n12 : Int, w1.cell? (Addr.add a11 (n9.toNat * 1)) = some (.int .i64 n12) ∧
  ((decide (n12 < 1)) = true →
  R (.tuple #[.int .i64 0, .int .i64 1]) w1) ∧
  ((decide (n12 < 1)) = false →
  ((decide (n12 > 8)) = true →
  R (.tuple #[.int .i64 0, .int .i64 1]) w1) ∧
  ((decide (n12 > 8)) = false →
  K [.int .i64 (IntKind.i64.wrap (n4 + n12)), .int .i64 (IntKind.i64.wrap (n9 + 1))] w1))) ∧
  ((decide (n9 < (l0 : Int))) = false →
  ((decide ((l0 : Int) > 64)) = true →
  R (.tuple #[.int .i64 0, .int .i64 1]) w1) ∧
  ((decide ((l0 : Int) > 64)) = false →
  R (.tuple #[.int .i64 n4, .int .i64 0]) w1))
theorem pack_Size_eq (p0 : Option Addr) (l0 c0 : Nat) (w : World) (R : Value → World → Prop) : pack_Size p0 l0 c0 w R = fnP Try.prog Try.f56 (.s .o (.s .o (.s (.s .o (.b (.l [(4, .one (.int .i64)), (9, .one (.int .i64))] .o))) .o))) [.slice p0 l0 c0] w R := by kernel_rfl
theorem pack_Size_calls {p0 : Option Addr} {l0 c0 : Nat} {w : World} {R : Value → World → Prop} (h : pack_Size p0 l0 c0 w R) : Calls Try.prog 56 #[.slice p0 l0 c0] w fun e w1 => ∃ v, e = .returned v ∧ R v w1 := fnP_calls callable Try.func56 (pack_Size_eq p0 l0 c0 w R ▸ h)

/-- revetment/pack.places -/
def pack_places (p0 : Option Addr) (l0 c0 : Nat) (w : World) (R : Value → World → Prop) : Prop :=
  Alloc #[.slice p0 l0 c0] 78 w fun k1 w1 =>
  R (.func (.func 74) #[] #[.pointer (some ⟨k1, 0, none⟩)]) w1
theorem pack_places_eq (p0 : Option Addr) (l0 c0 : Nat) (w : World) (R : Value → World → Prop) : pack_places p0 l0 c0 w R = fnP Try.prog Try.f57 .o [.slice p0 l0 c0] w R := by kernel_rfl
theorem pack_places_calls {p0 : Option Addr} {l0 c0 : Nat} {w : World} {R : Value → World → Prop} (h : pack_places p0 l0 c0 w R) : Calls Try.prog 57 #[.slice p0 l0 c0] w fun e w1 => ∃ v, e = .returned v ∧ R v w1 := fnP_calls callable Try.func57 (pack_places_eq p0 l0 c0 w R ▸ h)

/-- revetment/record.Head -/
def record_Head (s0 : ByteArray) (w : World) (R : Value → World → Prop) : Prop :=
  Alloc #[.int .u64 0, .int .i64 0, .slice none 0 0] 46 w fun k2 w1 =>
  (((s0.size : Int) != 64) = true →
  St ⟨k2, 0, none⟩ (.int .u64 0) w1 fun w2 =>
  St ⟨k2, 1, none⟩ (.int .i64 0) w2 fun w3 =>
  St ⟨k2, 2, none⟩ (.slice none 0 0) w3 fun w4 =>
  ∃ nr2_0 : Int, ∃ nr2_1 : Int, ∃ (pr2_2 : Option Addr) (lr2_2 cr2_2 : Nat), (w4.cell? ⟨k2, 0, none⟩ = some (.int .u64 nr2_0) ∧ w4.cell? ⟨k2, 1, none⟩ = some (.int .i64 nr2_1) ∧ w4.cell? ⟨k2, 2, none⟩ = some (.slice pr2_2 lr2_2 cr2_2)) ∧
  R (.tuple #[.agg #[.int .u64 nr2_0, .int .i64 nr2_1, .slice pr2_2 lr2_2 cr2_2], .int .u32 0, .int .i64 31]) w4) ∧
  (((s0.size : Int) != 64) = false →
  Calls Try.prog 30 #[.string s0] w1 fun e w5 => ∃ s19_0 : ByteArray, ∃ b19_1 : Bool, e = .returned (.tuple #[.string s19_0, .bool b19_1]) ∧
  ((!b19_1) = true →
  St ⟨k2, 0, none⟩ (.int .u64 0) w5 fun w6 =>
  St ⟨k2, 1, none⟩ (.int .i64 0) w6 fun w7 =>
  St ⟨k2, 2, none⟩ (.slice none 0 0) w7 fun w8 =>
  ∃ nr2_0_1 : Int, ∃ nr2_1_1 : Int, ∃ (pr2_2_1 : Option Addr) (lr2_2_1 cr2_2_1 : Nat), (w8.cell? ⟨k2, 0, none⟩ = some (.int .u64 nr2_0_1) ∧ w8.cell? ⟨k2, 1, none⟩ = some (.int .i64 nr2_1_1) ∧ w8.cell? ⟨k2, 2, none⟩ = some (.slice pr2_2_1 lr2_2_1 cr2_2_1)) ∧
  R (.tuple #[.agg #[.int .u64 nr2_0_1, .int .i64 nr2_1_1, .slice pr2_2_1 lr2_2_1 cr2_2_1], .int .u32 0, .int .i64 80]) w8) ∧
  ((!b19_1) = false →
  Calls Try.prog 47 #[.string s19_0, .string (ByteArray.mk #[82, 86, 84, 74])] w5 fun e_1 w9 => ∃ b28 : Bool, e_1 = .returned (.bool b28) ∧
  ((!b28) = true →
  St ⟨k2, 0, none⟩ (.int .u64 0) w9 fun w10 =>
  St ⟨k2, 1, none⟩ (.int .i64 0) w10 fun w11 =>
  St ⟨k2, 2, none⟩ (.slice none 0 0) w11 fun w12 =>
  ∃ nr2_0_2 : Int, ∃ nr2_1_2 : Int, ∃ (pr2_2_2 : Option Addr) (lr2_2_2 cr2_2_2 : Nat), (w12.cell? ⟨k2, 0, none⟩ = some (.int .u64 nr2_0_2) ∧ w12.cell? ⟨k2, 1, none⟩ = some (.int .i64 nr2_1_2) ∧ w12.cell? ⟨k2, 2, none⟩ = some (.slice pr2_2_2 lr2_2_2 cr2_2_2)) ∧
  R (.tuple #[.agg #[.int .u64 nr2_0_2, .int .i64 nr2_1_2, .slice pr2_2_2 lr2_2_2 cr2_2_2], .int .u32 0, .int .i64 81]) w12) ∧
  ((!b28) = false →
  ∃ s33 : ByteArray, ∃ w13, (Instr.sliceAt 9 (.string s19_0) (some (.int .i64 4)) (some (.int .i64 19)) none).run Try.prog w9 = .ok (.string s33) w13 ∧
  Alloc #[.int .i64 8, .int .i64 2, .int .i64 1, .int .i64 4] 3 w13 fun k34 w14 =>
  Calls Try.prog 31 #[.string s33, .slice (some ⟨k34, 0, none⟩) 4 4] w14 fun e_2 w15 => ∃ (p35_0 : Option Addr) (l35_0 c35_0 : Nat), ∃ n35_1 : Int, e_2 = .returned (.tuple #[.slice p35_0 l35_0 c35_0, .int .i64 n35_1]) ∧
  ((n35_1 != 0) = true →
  St ⟨k2, 0, none⟩ (.int .u64 0) w15 fun w16 =>
  St ⟨k2, 1, none⟩ (.int .i64 0) w16 fun w17 =>
  St ⟨k2, 2, none⟩ (.slice none 0 0) w17 fun w18 =>
  ∃ nr2_0_3 : Int, ∃ nr2_1_3 : Int, ∃ (pr2_2_3 : Option Addr) (lr2_2_3 cr2_2_3 : Nat), (w18.cell? ⟨k2, 0, none⟩ = some (.int .u64 nr2_0_3) ∧ w18.cell? ⟨k2, 1, none⟩ = some (.int .i64 nr2_1_3) ∧ w18.cell? ⟨k2, 2, none⟩ = some (.slice pr2_2_3 lr2_2_3 cr2_2_3)) ∧
  R (.tuple #[.agg #[.int .u64 nr2_0_3, .int .i64 nr2_1_3, .slice pr2_2_3 lr2_2_3 cr2_2_3], .int .u32 0, .int .i64 n35_1]) w18) ∧
  ((n35_1 != 0) = false →
  ∃ D : World → Prop, D w15.drew ∧
  ∃ a43 : Addr, p35_0 = some a43 ∧ (0 : Int) ≤ 0 ∧ 0 < (l35_0 : Int) ∧
  ∃ n44 : Int, (∀ w, D w → w.cell? a43 = some (.int .u64 n44)) ∧
  ∃ a46 : Addr, p35_0 = some a46 ∧ (0 : Int) ≤ 1 ∧ 1 < (l35_0 : Int) ∧
  ∃ n47 : Int, (∀ w, D w → w.cell? (a46.add 1) = some (.int .u64 n47)) ∧
  Alloc #[.int .u64 0, .int .i64 0, .slice none 0 0] 46 w15.drew fun k9 w19 =>
  D w19 ∧
  St ⟨k9, 0, none⟩ (.int .u64 n44) w19 fun w20 =>
  St ⟨k9, 1, none⟩ (.int .i64 (IntKind.i64.wrap n47)) w20 fun w21 =>
  St ⟨k9, 2, none⟩ (.slice none 0 0) w21 fun w22 =>
  ∃ a52 : Addr, p35_0 = some a52 ∧ (0 : Int) ≤ 2 ∧ 2 < (l35_0 : Int) ∧
  ∃ n53 : Int, w22.cell? (a52.add 2) = some (.int .u64 n53) ∧
  ∃ n58 : Int, ∃ w23, (builtin .min #[3, 3] 3 #[false, false] #[.int .i64 (IntKind.i64.wrap (19 + (IntKind.i64.wrap n53))), .int .i64 (s19_0.size : Int)]).run Try.prog w22 = .ok (.value (.int .i64 n58)) w23 ∧
  ∃ s59 : ByteArray, ∃ w24, (Instr.sliceAt 9 (.string s19_0) (some (.int .i64 19)) (some (.int .i64 n58)) none).run Try.prog w23 = .ok (.string s59) w24 ∧
  ∃ (p60 : Option Addr) (l60 c60 : Nat), ∃ w25, (convert 9 22 (.string s59)).run Try.prog w24 = .ok (.slice p60 l60 c60) w25 ∧
  LoopP (fun I => I [.int .i64 0] w25) fun K vs w26 => ∃ n62 : Int, vs = [.int .i64 n62] ∧
  ((decide (n62 < (l60 : Int))) = true →
  ∃ a64 : Addr, p60 = some a64 ∧ (0 : Int) ≤ n62 ∧ n62 < (l60 : Int) ∧
  ∃ n65 : Int, w26.cell? (Addr.add a64 (n62.toNat * 1)) = some (.int .u8 n65) ∧
  ∃ (p67 : Option Addr) (l67 c67 : Nat), w26.cell? ⟨k9, 2, none⟩ = some (.slice p67 l67 c67) ∧
  Alloc #[.int .i64 (IntKind.i64.wrap (Int.fdiv n65 (2 ^ 2))), .int .i64 (IntKind.i64.wrap (bits2 .and .u8 n65 3)), .string (ByteArray.mk #[])] 84 w26 fun k75 w27 =>
  ∃ (p76 : Option Addr) (l76 c76 : Nat), ∃ w28, (builtin .append #[37, 37] 37 #[false, false] #[.slice p67 l67 c67, .slice (some ⟨k75, 0, none⟩) 1 1]).run Try.prog w27 = .ok (.value (.slice p76 l76 c76)) w28 ∧
  St ⟨k9, 2, none⟩ (.slice p76 l76 c76) w28 fun w29 =>
  K [.int .i64 (IntKind.i64.wrap (n62 + 1))] w29) ∧
  ((decide (n62 < (l60 : Int))) = false →
  Join (fun vs_1 w30 => vs_1 = [] ∧
  St ⟨k2, 0, none⟩ (.int .u64 0) w30 fun w31 =>
  St ⟨k2, 1, none⟩ (.int .i64 0) w31 fun w32 =>
  St ⟨k2, 2, none⟩ (.slice none 0 0) w32 fun w33 =>
  ∃ nr2_0_4 : Int, ∃ nr2_1_4 : Int, ∃ (pr2_2_4 : Option Addr) (lr2_2_4 cr2_2_4 : Nat), (w33.cell? ⟨k2, 0, none⟩ = some (.int .u64 nr2_0_4) ∧ w33.cell? ⟨k2, 1, none⟩ = some (.int .i64 nr2_1_4) ∧ w33.cell? ⟨k2, 2, none⟩ = some (.slice pr2_2_4 lr2_2_4 cr2_2_4)) ∧
  R (.tuple #[.agg #[.int .u64 nr2_0_4, .int .i64 nr2_1_4, .slice pr2_2_4 lr2_2_4 cr2_2_4], .int .u32 0, .int .i64 1]) w33) fun J =>
  ∃ a80 : Addr, p35_0 = some a80 ∧ (0 : Int) ≤ 3 ∧ 3 < (l35_0 : Int) ∧
  ∃ n81 : Int, w26.cell? (a80.add 3) = some (.int .u64 n81) ∧
  ∃ n83_0 : Int, ∃ n83_1 : Int, ∃ (p83_2 : Option Addr) (l83_2 c83_2 : Nat), (w26.cell? ⟨k9, 0, none⟩ = some (.int .u64 n83_0) ∧ w26.cell? ⟨k9, 1, none⟩ = some (.int .i64 n83_1) ∧ w26.cell? ⟨k9, 2, none⟩ = some (.slice p83_2 l83_2 c83_2)) ∧
  Calls Try.prog 61 #[.agg #[.int .u64 n83_0, .int .i64 n83_1, .slice p83_2 l83_2 c83_2]] w26 fun e_3 w34 => ∃ b84 : Bool, e_3 = .returned (.bool b84) ∧
  (b84 = true →
  ∃ n86_0 : Int, ∃ n86_1 : Int, ∃ (p86_2 : Option Addr) (l86_2 c86_2 : Nat), (w34.cell? ⟨k9, 0, none⟩ = some (.int .u64 n86_0) ∧ w34.cell? ⟨k9, 1, none⟩ = some (.int .i64 n86_1) ∧ w34.cell? ⟨k9, 2, none⟩ = some (.slice p86_2 l86_2 c86_2)) ∧
  Calls Try.prog 36 #[.agg #[.int .u64 n86_0, .int .i64 n86_1, .slice p86_2 l86_2 c86_2], .int .u32 (IntKind.u32.wrap n81)] w34 fun e_4 w35 => ∃ s88 : ByteArray, e_4 = .returned (.string s88) ∧
  ((s88.toList == s0.toList) = true →
  ∃ n92_0 : Int, ∃ n92_1 : Int, ∃ (p92_2 : Option Addr) (l92_2 c92_2 : Nat), (w35.cell? ⟨k9, 0, none⟩ = some (.int .u64 n92_0) ∧ w35.cell? ⟨k9, 1, none⟩ = some (.int .i64 n92_1) ∧ w35.cell? ⟨k9, 2, none⟩ = some (.slice p92_2 l92_2 c92_2)) ∧
  St ⟨k2, 0, none⟩ (.int .u64 n92_0) w35 fun w36 =>
  St ⟨k2, 1, none⟩ (.int .i64 n92_1) w36 fun w37 =>
  St ⟨k2, 2, none⟩ (.slice p92_2 l92_2 c92_2) w37 fun w38 =>
  ∃ nr2_0_5 : Int, ∃ nr2_1_5 : Int, ∃ (pr2_2_5 : Option Addr) (lr2_2_5 cr2_2_5 : Nat), (w38.cell? ⟨k2, 0, none⟩ = some (.int .u64 nr2_0_5) ∧ w38.cell? ⟨k2, 1, none⟩ = some (.int .i64 nr2_1_5) ∧ w38.cell? ⟨k2, 2, none⟩ = some (.slice pr2_2_5 lr2_2_5 cr2_2_5)) ∧
  R (.tuple #[.agg #[.int .u64 nr2_0_5, .int .i64 nr2_1_5, .slice pr2_2_5 lr2_2_5 cr2_2_5], .int .u32 (IntKind.u32.wrap n81), .int .i64 0]) w38) ∧
  ((s88.toList == s0.toList) = false →
  J [] w35)) ∧
  (b84 = false →
  J [] w34))))))
theorem record_Head_eq (s0 : ByteArray) (w : World) (R : Value → World → Prop) : record_Head s0 w R = fnP Try.prog Try.f58 (.s .o (.s .o (.s .o (.s .o (.s .o (.s .o (.s .o (.s (.s .o (.b (.l [(62, .one (.int .i64))] .o))) (.j [] .o .o))))))))) [.string s0] w R := by kernel_rfl
theorem record_Head_calls {s0 : ByteArray} {w : World} {R : Value → World → Prop} (h : record_Head s0 w R) : Calls Try.prog 58 #[.string s0] w fun e w1 => ∃ v, e = .returned v ∧ R v w1 := fnP_calls callable Try.func58 (record_Head_eq s0 w R ▸ h)

/-- revetment/record.Decode -/
def record_Decode (s0 : ByteArray) (p1 : Option Addr) (l1 c1 : Nat) (w : World) (R : Value → World → Prop) : Prop :=
  Alloc #[.int .u64 0, .int .i64 0, .slice none 0 0] 46 w fun k4 w1 =>
  Calls Try.prog 58 #[.string s0] w1 fun e w2 => ∃ n13_0_0 : Int, ∃ n13_0_1 : Int, ∃ (p13_0_2 : Option Addr) (l13_0_2 c13_0_2 : Nat), ∃ n13_1 : Int, ∃ n13_2 : Int, e = .returned (.tuple #[.agg #[.int .u64 n13_0_0, .int .i64 n13_0_1, .slice p13_0_2 l13_0_2 c13_0_2], .int .u32 n13_1, .int .i64 n13_2]) ∧
  Alloc #[.int .u64 0, .int .i64 0, .slice none 0 0] 46 w2 fun k6 w3 =>
  St ⟨k6, 0, none⟩ (.int .u64 n13_0_0) w3 fun w4 =>
  St ⟨k6, 1, none⟩ (.int .i64 n13_0_1) w4 fun w5 =>
  St ⟨k6, 2, none⟩ (.slice p13_0_2 l13_0_2 c13_0_2) w5 fun w6 =>
  ((n13_2 != 0) = true →
  St ⟨k4, 0, none⟩ (.int .u64 0) w6 fun w7 =>
  St ⟨k4, 1, none⟩ (.int .i64 0) w7 fun w8 =>
  St ⟨k4, 2, none⟩ (.slice none 0 0) w8 fun w9 =>
  ∃ nr4_0 : Int, ∃ nr4_1 : Int, ∃ (pr4_2 : Option Addr) (lr4_2 cr4_2 : Nat), (w9.cell? ⟨k4, 0, none⟩ = some (.int .u64 nr4_0) ∧ w9.cell? ⟨k4, 1, none⟩ = some (.int .i64 nr4_1) ∧ w9.cell? ⟨k4, 2, none⟩ = some (.slice pr4_2 lr4_2 cr4_2)) ∧
  R (.tuple #[.agg #[.int .u64 nr4_0, .int .i64 nr4_1, .slice pr4_2 lr4_2 cr4_2], .int .i64 n13_2]) w9) ∧
  ((n13_2 != 0) = false →
  ∃ (p26 : Option Addr) (l26 c26 : Nat), w6.cell? ⟨k6, 2, none⟩ = some (.slice p26 l26 c26) ∧
  (((l1 : Int) != (l26 : Int)) = true →
  St ⟨k4, 0, none⟩ (.int .u64 0) w6 fun w10 =>
  St ⟨k4, 1, none⟩ (.int .i64 0) w10 fun w11 =>
  St ⟨k4, 2, none⟩ (.slice none 0 0) w11 fun w12 =>
  ∃ nr4_0_1 : Int, ∃ nr4_1_1 : Int, ∃ (pr4_2_1 : Option Addr) (lr4_2_1 cr4_2_1 : Nat), (w12.cell? ⟨k4, 0, none⟩ = some (.int .u64 nr4_0_1) ∧ w12.cell? ⟨k4, 1, none⟩ = some (.int .i64 nr4_1_1) ∧ w12.cell? ⟨k4, 2, none⟩ = some (.slice pr4_2_1 lr4_2_1 cr4_2_1)) ∧
  R (.tuple #[.agg #[.int .u64 nr4_0_1, .int .i64 nr4_1_1, .slice pr4_2_1 lr4_2_1 cr4_2_1], .int .i64 31]) w12) ∧
  (((l1 : Int) != (l26 : Int)) = false →
  LoopP (fun I => I [.int .i64 0] w6) fun K vs w13 => ∃ n32 : Int, vs = [.int .i64 n32] ∧
  ((decide (n32 < (l1 : Int))) = true →
  ∃ a35 : Addr, p1 = some a35 ∧ (0 : Int) ≤ n32 ∧ n32 < (l1 : Int) ∧
  ∃ s36 : ByteArray, w13.cell? (Addr.add a35 (n32.toNat * 1)) = some (.string s36) ∧
  ∃ (p38 : Option Addr) (l38 c38 : Nat), w13.cell? ⟨k6, 2, none⟩ = some (.slice p38 l38 c38) ∧
  ∃ a41 : Addr, p38 = some a41 ∧ (0 : Int) ≤ n32 ∧ n32 < (l38 : Int) ∧
  St (Addr.add (Addr.add a41 (n32.toNat * 3)) 2) (.string s36) w13 fun w14 =>
  K [.int .i64 (IntKind.i64.wrap (n32 + 1))] w14) ∧
  ((decide (n32 < (l1 : Int))) = false →
  ∃ n45_0 : Int, ∃ n45_1 : Int, ∃ (p45_2 : Option Addr) (l45_2 c45_2 : Nat), (w13.cell? ⟨k6, 0, none⟩ = some (.int .u64 n45_0) ∧ w13.cell? ⟨k6, 1, none⟩ = some (.int .i64 n45_1) ∧ w13.cell? ⟨k6, 2, none⟩ = some (.slice p45_2 l45_2 c45_2)) ∧
  Calls Try.prog 62 #[.agg #[.int .u64 n45_0, .int .i64 n45_1, .slice p45_2 l45_2 c45_2]] w13 fun e_1 w15 => ∃ b46 : Bool, e_1 = .returned (.bool b46) ∧
  ((!b46) = true →
  St ⟨k4, 0, none⟩ (.int .u64 0) w15 fun w16 =>
  St ⟨k4, 1, none⟩ (.int .i64 0) w16 fun w17 =>
  St ⟨k4, 2, none⟩ (.slice none 0 0) w17 fun w18 =>
  ∃ nr4_0_2 : Int, ∃ nr4_1_2 : Int, ∃ (pr4_2_2 : Option Addr) (lr4_2_2 cr4_2_2 : Nat), (w18.cell? ⟨k4, 0, none⟩ = some (.int .u64 nr4_0_2) ∧ w18.cell? ⟨k4, 1, none⟩ = some (.int .i64 nr4_1_2) ∧ w18.cell? ⟨k4, 2, none⟩ = some (.slice pr4_2_2 lr4_2_2 cr4_2_2)) ∧
  R (.tuple #[.agg #[.int .u64 nr4_0_2, .int .i64 nr4_1_2, .slice pr4_2_2 lr4_2_2 cr4_2_2], .int .i64 31]) w18) ∧
  ((!b46) = false →
  Calls Try.prog 38 #[.slice p1 l1 c1, .string (ByteArray.mk #[])] w15 fun e_2 w19 => ∃ s51 : ByteArray, e_2 = .returned (.string s51) ∧
  Calls Try.prog 37 #[.string s51] w19 fun e_3 w20 => ∃ n52 : Int, e_3 = .returned (.int .u32 n52) ∧
  ((n52 != n13_1) = true →
  St ⟨k4, 0, none⟩ (.int .u64 0) w20 fun w21 =>
  St ⟨k4, 1, none⟩ (.int .i64 0) w21 fun w22 =>
  St ⟨k4, 2, none⟩ (.slice none 0 0) w22 fun w23 =>
  ∃ nr4_0_3 : Int, ∃ nr4_1_3 : Int, ∃ (pr4_2_3 : Option Addr) (lr4_2_3 cr4_2_3 : Nat), (w23.cell? ⟨k4, 0, none⟩ = some (.int .u64 nr4_0_3) ∧ w23.cell? ⟨k4, 1, none⟩ = some (.int .i64 nr4_1_3) ∧ w23.cell? ⟨k4, 2, none⟩ = some (.slice pr4_2_3 lr4_2_3 cr4_2_3)) ∧
  R (.tuple #[.agg #[.int .u64 nr4_0_3, .int .i64 nr4_1_3, .slice pr4_2_3 lr4_2_3 cr4_2_3], .int .i64 80]) w23) ∧
  ((n52 != n13_1) = false →
  ∃ n56_0 : Int, ∃ n56_1 : Int, ∃ (p56_2 : Option Addr) (l56_2 c56_2 : Nat), (w20.cell? ⟨k6, 0, none⟩ = some (.int .u64 n56_0) ∧ w20.cell? ⟨k6, 1, none⟩ = some (.int .i64 n56_1) ∧ w20.cell? ⟨k6, 2, none⟩ = some (.slice p56_2 l56_2 c56_2)) ∧
  St ⟨k4, 0, none⟩ (.int .u64 n56_0) w20 fun w24 =>
  St ⟨k4, 1, none⟩ (.int .i64 n56_1) w24 fun w25 =>
  St ⟨k4, 2, none⟩ (.slice p56_2 l56_2 c56_2) w25 fun w26 =>
  ∃ nr4_0_4 : Int, ∃ nr4_1_4 : Int, ∃ (pr4_2_4 : Option Addr) (lr4_2_4 cr4_2_4 : Nat), (w26.cell? ⟨k4, 0, none⟩ = some (.int .u64 nr4_0_4) ∧ w26.cell? ⟨k4, 1, none⟩ = some (.int .i64 nr4_1_4) ∧ w26.cell? ⟨k4, 2, none⟩ = some (.slice pr4_2_4 lr4_2_4 cr4_2_4)) ∧
  R (.tuple #[.agg #[.int .u64 nr4_0_4, .int .i64 nr4_1_4, .slice pr4_2_4 lr4_2_4 cr4_2_4], .int .i64 0]) w26)))))
theorem record_Decode_eq (s0 : ByteArray) (p1 : Option Addr) (l1 c1 : Nat) (w : World) (R : Value → World → Prop) : record_Decode s0 p1 l1 c1 w R = fnP Try.prog Try.f59 (.s .o (.s .o (.s .o (.s (.s .o (.b (.l [(32, .one (.int .i64))] .o))) .o)))) [.string s0, .slice p1 l1 c1] w R := by kernel_rfl
theorem record_Decode_calls {s0 : ByteArray} {p1 : Option Addr} {l1 c1 : Nat} {w : World} {R : Value → World → Prop} (h : record_Decode s0 p1 l1 c1 w R) : Calls Try.prog 59 #[.string s0, .slice p1 l1 c1] w fun e w1 => ∃ v, e = .returned v ∧ R v w1 := fnP_calls callable Try.func59 (record_Decode_eq s0 p1 l1 c1 w R ▸ h)

/-- (revetment/record.Record).placed -/
def record_Record_placed (n0_0 : Int) (n0_1 : Int) (p0_2 : Option Addr) (l0_2 c0_2 : Nat) (w : World) (R : Value → World → Prop) : Prop :=
  Alloc #[.int .u64 n0_0, .int .i64 n0_1, .slice p0_2 l0_2 c0_2] 46 w fun k1 w1 =>
  ∃ n8 : Int, w1.cell? ⟨k1, 1, none⟩ = some (.int .i64 n8) ∧
  ((decide (n8 < 0)) = true →
  R (.bool false) w1) ∧
  ((decide (n8 < 0)) = false →
  ∃ n12 : Int, w1.cell? ⟨k1, 1, none⟩ = some (.int .i64 n12) ∧
  ((decide (n12 ≥ 256)) = true →
  R (.bool false) w1) ∧
  ((decide (n12 ≥ 256)) = false →
  ∃ (p17 : Option Addr) (l17 c17 : Nat), w1.cell? ⟨k1, 2, none⟩ = some (.slice p17 l17 c17) ∧
  (((l17 : Int) == 0) = true →
  R (.bool false) w1) ∧
  (((l17 : Int) == 0) = false →
  ∃ (p23 : Option Addr) (l23 c23 : Nat), w1.cell? ⟨k1, 2, none⟩ = some (.slice p23 l23 c23) ∧
  ((decide ((l23 : Int) > 40)) = true →
  R (.bool false) w1) ∧
  ((decide ((l23 : Int) > 40)) = false →
  AllocM w1 fun k27 w2 =>
  ∃ (p29 : Option Addr) (l29 c29 : Nat), w2.cell? ⟨k1, 2, none⟩ = some (.slice p29 l29 c29) ∧
  LoopP (fun I => I [.int .i64 0] w2) fun K vs w3 => ∃ n31 : Int, vs = [.int .i64 n31] ∧
  ((decide (n31 < (l29 : Int))) = true →
  ∃ a33 : Addr, p29 = some a33 ∧ (0 : Int) ≤ n31 ∧ n31 < (l29 : Int) ∧
  ∃ n34_0 : Int, ∃ n34_1 : Int, ∃ s34_2 : ByteArray, (w3.cell? (Addr.add a33 (n31.toNat * 3)) = some (.int .i64 n34_0) ∧ w3.cell? (Addr.add (Addr.add a33 (n31.toNat * 3)) 1) = some (.int .i64 n34_1) ∧ w3.cell? (Addr.add (Addr.add a33 (n31.toNat * 3)) 2) = some (.string s34_2)) ∧
  Alloc #[.int .i64 0, .int .i64 0, .string (ByteArray.mk #[])] 84 w3 fun k5 w4 =>
  St ⟨k5, 0, none⟩ (.int .i64 n34_0) w4 fun w5 =>
  St ⟨k5, 1, none⟩ (.int .i64 n34_1) w5 fun w6 =>
  St ⟨k5, 2, none⟩ (.string s34_2) w6 fun w7 =>
  ∃ n36 : Int, w7.cell? ⟨k5, 0, none⟩ = some (.int .i64 n36) ∧
  ∃ n38 : Int, w7.cell? ⟨k5, 1, none⟩ = some (.int .i64 n38) ∧
  Alloc #[.int .i64 0, .int .i64 0] 138 w7 fun k6 w8 =>
  St ⟨k6, 0, none⟩ (.int .i64 n36) w8 fun w9 =>
  St ⟨k6, 1, none⟩ (.int .i64 n38) w9 fun w10 =>
  ∃ n41 : Int, w10.cell? ⟨k5, 0, none⟩ = some (.int .i64 n41) ∧
  ((decide (n41 < 0)) = true →
  R (.bool false) w10) ∧
  ((decide (n41 < 0)) = false →
  ∃ n45 : Int, w10.cell? ⟨k5, 0, none⟩ = some (.int .i64 n45) ∧
  ((decide (n45 ≥ 10)) = true →
  R (.bool false) w10) ∧
  ((decide (n45 ≥ 10)) = false →
  ∃ n50 : Int, w10.cell? ⟨k5, 1, none⟩ = some (.int .i64 n50) ∧
  ((decide (n50 < 0)) = true →
  R (.bool false) w10) ∧
  ((decide (n50 < 0)) = false →
  ∃ n55 : Int, w10.cell? ⟨k5, 1, none⟩ = some (.int .i64 n55) ∧
  ((decide (n55 ≥ 4)) = true →
  R (.bool false) w10) ∧
  ((decide (n55 ≥ 4)) = false →
  ∃ n60_0 : Int, ∃ n60_1 : Int, (w10.cell? ⟨k6, 0, none⟩ = some (.int .i64 n60_0) ∧ w10.cell? ⟨k6, 1, none⟩ = some (.int .i64 n60_1)) ∧
  ∃ b61 : Bool, ∃ w11, (Instr.lookup 137 (.map (some k27)) (.agg #[.int .i64 n60_0, .int .i64 n60_1]) false).run Try.prog w10 = .ok (.bool b61) w11 ∧
  (b61 = true →
  R (.bool false) w11) ∧
  (b61 = false →
  ∃ n64_0 : Int, ∃ n64_1 : Int, (w11.cell? ⟨k6, 0, none⟩ = some (.int .i64 n64_0) ∧ w11.cell? ⟨k6, 1, none⟩ = some (.int .i64 n64_1)) ∧
  ∃ w12, (Instr.mapUpdate 137 (.map (some k27)) (.agg #[.int .i64 n64_0, .int .i64 n64_1]) (.bool true)).run Try.prog w11 = .ok () w12 ∧
  K [.int .i64 (IntKind.i64.wrap (n31 + 1))] w12)))))) ∧
  ((decide (n31 < (l29 : Int))) = false →
  R (.bool true) w3)))))
theorem record_Record_placed_eq (n0_0 : Int) (n0_1 : Int) (p0_2 : Option Addr) (l0_2 c0_2 : Nat) (w : World) (R : Value → World → Prop) : record_Record_placed n0_0 n0_1 p0_2 l0_2 c0_2 w R = fnP Try.prog Try.f61 (.s .o (.s .o (.s .o (.s (.s .o (.b (.l [(31, .one (.int .i64))] .o))) .o)))) [.agg #[.int .u64 n0_0, .int .i64 n0_1, .slice p0_2 l0_2 c0_2]] w R := by kernel_rfl
theorem record_Record_placed_calls {n0_0 : Int} {n0_1 : Int} {p0_2 : Option Addr} {l0_2 c0_2 : Nat} {w : World} {R : Value → World → Prop} (h : record_Record_placed n0_0 n0_1 p0_2 l0_2 c0_2 w R) : Calls Try.prog 61 #[.agg #[.int .u64 n0_0, .int .i64 n0_1, .slice p0_2 l0_2 c0_2]] w fun e w1 => ∃ v, e = .returned v ∧ R v w1 := fnP_calls callable Try.func61 (record_Record_placed_eq n0_0 n0_1 p0_2 l0_2 c0_2 w R ▸ h)

/-- (revetment/record.Record).loaded -/
def record_Record_loaded (n0_0 : Int) (n0_1 : Int) (p0_2 : Option Addr) (l0_2 c0_2 : Nat) (w : World) (R : Value → World → Prop) : Prop :=
  Alloc #[.int .u64 n0_0, .int .i64 n0_1, .slice p0_2 l0_2 c0_2] 46 w fun k1 w1 =>
  ∃ (p6 : Option Addr) (l6 c6 : Nat), w1.cell? ⟨k1, 2, none⟩ = some (.slice p6 l6 c6) ∧
  LoopP (fun I => I [.int .i64 0] w1) fun K vs w2 => ∃ n8 : Int, vs = [.int .i64 n8] ∧
  ((decide (n8 < (l6 : Int))) = true →
  ∃ a10 : Addr, p6 = some a10 ∧ (0 : Int) ≤ n8 ∧ n8 < (l6 : Int) ∧
  ∃ n11_0 : Int, ∃ n11_1 : Int, ∃ s11_2 : ByteArray, (w2.cell? (Addr.add a10 (n8.toNat * 3)) = some (.int .i64 n11_0) ∧ w2.cell? (Addr.add (Addr.add a10 (n8.toNat * 3)) 1) = some (.int .i64 n11_1) ∧ w2.cell? (Addr.add (Addr.add a10 (n8.toNat * 3)) 2) = some (.string s11_2)) ∧
  Alloc #[.int .i64 0, .int .i64 0, .string (ByteArray.mk #[])] 84 w2 fun k4 w3 =>
  St ⟨k4, 0, none⟩ (.int .i64 n11_0) w3 fun w4 =>
  St ⟨k4, 1, none⟩ (.int .i64 n11_1) w4 fun w5 =>
  St ⟨k4, 2, none⟩ (.string s11_2) w5 fun w6 =>
  ∃ s13 : ByteArray, w6.cell? ⟨k4, 2, none⟩ = some (.string s13) ∧
  (((s13.size : Int) != 64) = true →
  R (.bool false) w6) ∧
  (((s13.size : Int) != 64) = false →
  K [.int .i64 (IntKind.i64.wrap (n8 + 1))] w6)) ∧
  ((decide (n8 < (l6 : Int))) = false →
  R (.bool true) w2)
theorem record_Record_loaded_eq (n0_0 : Int) (n0_1 : Int) (p0_2 : Option Addr) (l0_2 c0_2 : Nat) (w : World) (R : Value → World → Prop) : record_Record_loaded n0_0 n0_1 p0_2 l0_2 c0_2 w R = fnP Try.prog Try.f62 (.s .o (.s (.s .o (.b (.l [(8, .one (.int .i64))] .o))) .o)) [.agg #[.int .u64 n0_0, .int .i64 n0_1, .slice p0_2 l0_2 c0_2]] w R := by kernel_rfl
theorem record_Record_loaded_calls {n0_0 : Int} {n0_1 : Int} {p0_2 : Option Addr} {l0_2 c0_2 : Nat} {w : World} {R : Value → World → Prop} (h : record_Record_loaded n0_0 n0_1 p0_2 l0_2 c0_2 w R) : Calls Try.prog 62 #[.agg #[.int .u64 n0_0, .int .i64 n0_1, .slice p0_2 l0_2 c0_2]] w fun e w1 => ∃ v, e = .returned v ∧ R v w1 := fnP_calls callable Try.func62 (record_Record_loaded_eq n0_0 n0_1 p0_2 l0_2 c0_2 w R ▸ h)

/-- revetment/record.packed -/
def record_packed (p0 : Option Addr) (l0 c0 : Nat) (w : World) (R : Value → World → Prop) : Prop :=
  LoopP (fun I => I [.slice none 0 0, .slice none 0 0, .int .i64 0] w) fun K vs w1 => ∃ (p3 : Option Addr) (l3 c3 : Nat), ∃ (p4 : Option Addr) (l4 c4 : Nat), ∃ n5 : Int, vs = [.slice p3 l3 c3, .slice p4 l4 c4, .int .i64 n5] ∧
  ((decide ((IntKind.i64.wrap (n5 + 1)) < (l0 : Int))) = true →
  ∃ D : World → Prop, D w1.drew ∧
  ∃ a18 : Addr, p0 = some a18 ∧ (0 : Int) ≤ n5 ∧ n5 < (l0 : Int) ∧
  ∃ n19 : Int, (∀ w, D w → w.cell? (Addr.add a18 (n5.toNat * 1)) = some (.int .u64 n19)) ∧
  ∃ a26 : Addr, p0 = some a26 ∧ (0 : Int) ≤ IntKind.i64.wrap (n5 + 1) ∧ (IntKind.i64.wrap (n5 + 1)) < (l0 : Int) ∧
  ∃ n27 : Int, (∀ w, D w → w.cell? (Addr.add a26 ((IntKind.i64.wrap (n5 + 1)).toNat * 1)) = some (.int .u64 n27)) ∧
  (Alloc #[.int .u64 n19] 34 w1.drew fun k20 w2 =>
  D w2 ∧
  (∃ (p21 : Option Addr) (l21 c21 : Nat), ∃ w3, (builtin .append #[75, 75] 75 #[false, false] #[.slice p3 l3 c3, .slice (some ⟨k20, 0, none⟩) 1 1]).run Try.prog w2 = .ok (.value (.slice p21 l21 c21)) w3 ∧
  D w3 ∧
  Alloc #[.int .i64 (IntKind.i64.wrap n27)] 3 w3 fun k29 w4 =>
  D w4 ∧
  ∃ (p30 : Option Addr) (l30 c30 : Nat), ∃ w5, (builtin .append #[78, 78] 78 #[false, false] #[.slice p4 l4 c4, .slice (some ⟨k29, 0, none⟩) 1 1]).run Try.prog w4 = .ok (.value (.slice p30 l30 c30)) w5 ∧
  D w5 ∧
  K [.slice p21 l21 c21, .slice p30 l30 c30, .int .i64 (IntKind.i64.wrap (n5 + 2))] w5) ∧
  (Alloc #[.int .i64 (IntKind.i64.wrap n27)] 3 w2 fun k29_1 w6 =>
  D w6 ∧
  ∃ (p21_1 : Option Addr) (l21_1 c21_1 : Nat), ∃ w7, (builtin .append #[75, 75] 75 #[false, false] #[.slice p3 l3 c3, .slice (some ⟨k20, 0, none⟩) 1 1]).run Try.prog w6 = .ok (.value (.slice p21_1 l21_1 c21_1)) w7 ∧
  D w7 ∧
  ∃ (p30_1 : Option Addr) (l30_1 c30_1 : Nat), ∃ w8, (builtin .append #[78, 78] 78 #[false, false] #[.slice p4 l4 c4, .slice (some ⟨k29_1, 0, none⟩) 1 1]).run Try.prog w7 = .ok (.value (.slice p30_1 l30_1 c30_1)) w8 ∧
  D w8 ∧
  K [.slice p21_1 l21_1 c21_1, .slice p30_1 l30_1 c30_1, .int .i64 (IntKind.i64.wrap (n5 + 2))] w8)) ∧
  (Alloc #[.int .i64 (IntKind.i64.wrap n27)] 3 w1.drew fun k29_2 w9 =>
  D w9 ∧
  Alloc #[.int .u64 n19] 34 w9 fun k20_1 w10 =>
  D w10 ∧
  ∃ (p21_2 : Option Addr) (l21_2 c21_2 : Nat), ∃ w11, (builtin .append #[75, 75] 75 #[false, false] #[.slice p3 l3 c3, .slice (some ⟨k20_1, 0, none⟩) 1 1]).run Try.prog w10 = .ok (.value (.slice p21_2 l21_2 c21_2)) w11 ∧
  D w11 ∧
  ∃ (p30_2 : Option Addr) (l30_2 c30_2 : Nat), ∃ w12, (builtin .append #[78, 78] 78 #[false, false] #[.slice p4 l4 c4, .slice (some ⟨k29_2, 0, none⟩) 1 1]).run Try.prog w11 = .ok (.value (.slice p30_2 l30_2 c30_2)) w12 ∧
  D w12 ∧
  K [.slice p21_2 l21_2 c21_2, .slice p30_2 l30_2 c30_2, .int .i64 (IntKind.i64.wrap (n5 + 2))] w12)) ∧
  ((decide ((IntKind.i64.wrap (n5 + 1)) < (l0 : Int))) = false →
  Calls Try.prog 52 #[.slice p3 l3 c3, .slice p4 l4 c4] w1 fun e w13 => ∃ s34_0 : ByteArray, ∃ n34_1 : Int, e = .returned (.tuple #[.string s34_0, .int .i64 n34_1]) ∧
  R (.string s34_0) w13)
theorem record_packed_eq (p0 : Option Addr) (l0 c0 : Nat) (w : World) (R : Value → World → Prop) : record_packed p0 l0 c0 w R = fnP Try.prog Try.f63 (.s .o (.s .o (.s .o (.s (.s .o (.b (.l [(3, .one .slice), (4, .one .slice), (5, .one (.int .i64))] .o))) .o)))) [.slice p0 l0 c0] w R := by kernel_rfl
theorem record_packed_calls {p0 : Option Addr} {l0 c0 : Nat} {w : World} {R : Value → World → Prop} (h : record_packed p0 l0 c0 w R) : Calls Try.prog 63 #[.slice p0 l0 c0] w fun e w1 => ∃ v, e = .returned v ∧ R v w1 := fnP_calls callable Try.func63 (record_packed_eq p0 l0 c0 w R ▸ h)

/-- revetment/crc.More -/
def crc_More (n0 : Int) (s1 : ByteArray) (w : World) (R : Value → World → Prop) : Prop :=
  Calls Try.prog 75 #[] w fun e w1 => ∃ z9 : Array Value, z9.size = 16 ∧ e = .returned (.agg z9) ∧
  Alloc #[.int .u32 0, .int .u32 0, .int .u32 0, .int .u32 0, .int .u32 0, .int .u32 0, .int .u32 0, .int .u32 0, .int .u32 0, .int .u32 0, .int .u32 0, .int .u32 0, .int .u32 0, .int .u32 0, .int .u32 0, .int .u32 0] 139 w1 fun k5 w2 =>
  ∃ w3, (Instr.storeAt 139 (.pointer (some ⟨k5, 0, none⟩)) (.agg z9)).run Try.prog w2 = .ok () w3 ∧
  Alloc #[.int .u32 0] 87 w3 fun k6 w4 =>
  St ⟨k6, 0, none⟩ (.int .u32 (bits2 .xor .u32 IntKind.u32.max n0)) w4 fun w5 =>
  LoopP (fun I => I [.int .i64 0] w5) fun K vs w6 => ∃ n15 : Int, vs = [.int .i64 n15] ∧
  ((decide (n15 < (s1.size : Int))) = true →
  ∃ D : World → Prop, D w6.drew ∧
  ∃ n18 : Int, (∀ w, D w → w.cell? ⟨k6, 0, none⟩ = some (.int .u32 n18)) ∧
  ∃ n21 : Int, (∀ w, D w → (Instr.index 9 (.string s1) (.int .i64 n15)).run Try.prog w = .ok (.int .u8 n21) w) ∧
  St ⟨k6, 0, none⟩ (.int .u32 (bits2 .xor .u32 n18 (IntKind.u32.wrap n21))) w6.drew fun w7 =>
  Calls Try.prog 76 #[.pointer (some ⟨k6, 0, none⟩), .pointer (some ⟨k5, 0, none⟩)] w7 fun e_1 w8 => e_1 = .returned (.tuple #[]) ∧
  Calls Try.prog 76 #[.pointer (some ⟨k6, 0, none⟩), .pointer (some ⟨k5, 0, none⟩)] w8 fun e_2 w9 => e_2 = .returned (.tuple #[]) ∧
  K [.int .i64 (IntKind.i64.wrap (n15 + 1))] w9) ∧
  ((decide (n15 < (s1.size : Int))) = false →
  ∃ n29 : Int, w6.cell? ⟨k6, 0, none⟩ = some (.int .u32 n29) ∧
  R (.int .u32 (bits2 .xor .u32 IntKind.u32.max n29)) w6)
theorem crc_More_eq (n0 : Int) (s1 : ByteArray) (w : World) (R : Value → World → Prop) : crc_More n0 s1 w R = fnP Try.prog Try.f65 (.s .o (.s .o (.s .o (.s .o (.s (.s .o (.b (.l [(15, .one (.int .i64))] .o))) .o))))) [.int .u32 n0, .string s1] w R := by kernel_rfl
theorem crc_More_calls {n0 : Int} {s1 : ByteArray} {w : World} {R : Value → World → Prop} (h : crc_More n0 s1 w R) : Calls Try.prog 65 #[.int .u32 n0, .string s1] w fun e w1 => ∃ v, e = .returned v ∧ R v w1 := fnP_calls callable Try.func65 (crc_More_eq n0 s1 w R ▸ h)

/-- internal/stringslite.HasPrefix -/
def internal_stringslite_HasPrefix (s0 : ByteArray) (s1 : ByteArray) (w : World) (R : Value → World → Prop) : Prop :=
  ((decide ((s0.size : Int) ≥ (s1.size : Int))) = true →
  ∃ s14 : ByteArray, ∃ w1, (Instr.sliceAt 9 (.string s0) none (some (.int .i64 (s1.size : Int))) none).run Try.prog w = .ok (.string s14) w1 ∧
  R (.bool (s14.toList == s1.toList)) w1) ∧
  ((decide ((s0.size : Int) ≥ (s1.size : Int))) = false →
  R (.bool false) w)
theorem internal_stringslite_HasPrefix_eq (s0 : ByteArray) (s1 : ByteArray) (w : World) (R : Value → World → Prop) : internal_stringslite_HasPrefix s0 s1 w R = fnP Try.prog Try.f70 .o [.string s0, .string s1] w R := by kernel_rfl
theorem internal_stringslite_HasPrefix_calls {s0 : ByteArray} {s1 : ByteArray} {w : World} {R : Value → World → Prop} (h : internal_stringslite_HasPrefix s0 s1 w R) : Calls Try.prog 70 #[.string s0, .string s1] w fun e w1 => ∃ v, e = .returned v ∧ R v w1 := fnP_calls callable Try.func70 (internal_stringslite_HasPrefix_eq s0 s1 w R ▸ h)

/-- revetment/pack.Fits -/
def pack_Fits (n0 : Int) (n1 : Int) (w : World) (R : Value → World → Prop) : Prop :=
  ((n1 == 8) = true →
  R (.bool true) w) ∧
  ((n1 == 8) = false →
  ((decide (n1 > 0)) = true →
  ((decide (n1 < 8)) = true →
  (0 : Int) ≤ (IntKind.i64.wrap (8 * n1)) ∧
  R (.bool ((Int.fdiv n0 (2 ^ (min (IntKind.i64.wrap (8 * n1)).toNat 64))) == 0)) w) ∧
  ((decide (n1 < 8)) = false →
  R (.bool false) w)) ∧
  ((decide (n1 > 0)) = false →
  R (.bool false) w))
theorem pack_Fits_eq (n0 : Int) (n1 : Int) (w : World) (R : Value → World → Prop) : pack_Fits n0 n1 w R = fnP Try.prog Try.f73 .o [.int .u64 n0, .int .i64 n1] w R := by kernel_rfl
theorem pack_Fits_calls {n0 : Int} {n1 : Int} {w : World} {R : Value → World → Prop} (h : pack_Fits n0 n1 w R) : Calls Try.prog 73 #[.int .u64 n0, .int .i64 n1] w fun e w1 => ∃ v, e = .returned v ∧ R v w1 := fnP_calls callable Try.func73 (pack_Fits_eq n0 n1 w R ▸ h)

/-- revetment/pack.places$1 -/
def pack_places_1 (v0 : Value) (k1 : Addr) (w : World) (R : Value → World → Prop) : Prop :=
  ∃ (p6 : Option Addr) (l6 c6 : Nat), w.cell? k1 = some (.slice p6 l6 c6) ∧
  LoopP (fun I => I [.int .i64 0] w) fun K vs w1 => ∃ n8 : Int, vs = [.int .i64 n8] ∧
  ((decide (n8 < (l6 : Int))) = true →
  ∃ a11 : Addr, p6 = some a11 ∧ (0 : Int) ≤ n8 ∧ n8 < (l6 : Int) ∧
  ∃ n12 : Int, w1.cell? (Addr.add a11 (n8.toNat * 1)) = some (.int .i64 n12) ∧
  LoopP (fun I_1 => I_1 [.int .i64 0] w1) fun K_1 vs_1 w2 => ∃ n14 : Int, vs_1 = [.int .i64 n14] ∧
  ((decide (n14 < n12)) = true →
  CallF Try.prog v0 [.int .i64 n8, .int .i64 (IntKind.i64.wrap (8 * n14))] w2 fun e w3 => ∃ b21 : Bool, e = .returned (.bool b21) ∧
  ((!b21) = true →
  R (.tuple #[]) w3) ∧
  ((!b21) = false →
  K_1 [.int .i64 (IntKind.i64.wrap (n14 + 1))] w3)) ∧
  ((decide (n14 < n12)) = false →
  K [.int .i64 (IntKind.i64.wrap (n8 + 1))] w2)) ∧
  ((decide (n8 < (l6 : Int))) = false →
  R (.tuple #[]) w1)
theorem pack_places_1_eq (v0 : Value) (k1 : Addr) (w : World) (R : Value → World → Prop) : pack_places_1 v0 k1 w R = fnP Try.prog Try.f74 (.s .o (.b (.l [(8, .one (.int .i64))] (.s .o (.s .o (.s (.b (.s .o (.s .o (.b (.l [(14, .one (.int .i64))] .o))))) .o)))))) [v0, .pointer (some k1)] w R := by kernel_rfl
theorem pack_places_1_calls {v0 : Value} {k1 : Addr} {w : World} {R : Value → World → Prop} (h : pack_places_1 v0 k1 w R) : Calls Try.prog 74 #[v0, .pointer (some k1)] w fun e w1 => ∃ v, e = .returned v ∧ R v w1 := fnP_calls callable Try.func74 (pack_places_1_eq v0 k1 w R ▸ h)

/-- revetment/crc.table -/
def crc_table (w : World) (R : Value → World → Prop) : Prop :=
  Alloc #[.int .u32 0, .int .u32 0, .int .u32 0, .int .u32 0, .int .u32 0, .int .u32 0, .int .u32 0, .int .u32 0, .int .u32 0, .int .u32 0, .int .u32 0, .int .u32 0, .int .u32 0, .int .u32 0, .int .u32 0, .int .u32 0] 139 w fun k0 w1 =>
  Alloc #[.int .u32 0, .int .u32 0, .int .u32 0, .int .u32 0, .int .u32 0, .int .u32 0, .int .u32 0, .int .u32 0, .int .u32 0, .int .u32 0, .int .u32 0, .int .u32 0, .int .u32 0, .int .u32 0, .int .u32 0, .int .u32 0] 139 w1 fun k1 w2 =>
  LoopP (fun I => I [.int .i64 0] w2) fun K vs w3 => ∃ n4 : Int, vs = [.int .i64 n4] ∧
  ((decide (n4 < 16)) = true →
  LoopP (fun I_1 => I_1 [.int .u32 (IntKind.u32.wrap n4), .int .i64 0] w3) fun K_1 vs_1 w4 => ∃ n3 : Int, ∃ n9 : Int, vs_1 = [.int .u32 n3, .int .i64 n9] ∧
  ((decide (n9 < 4)) = true →
  K_1 [.int .u32 (bits2 .xor .u32 (Int.fdiv n3 (2 ^ 1)) (IntKind.u32.wrap (2197175160 * (bits2 .and .u32 n3 1)))), .int .i64 (IntKind.i64.wrap (n9 + 1))] w4) ∧
  ((decide (n9 < 4)) = false →
  (0 : Int) ≤ n4 ∧ n4 < (16 : Int) ∧
  St (Addr.add ⟨k1, 0, none⟩ (n4.toNat * 1)) (.int .u32 n3) w4 fun w5 =>
  K [.int .i64 (IntKind.i64.wrap (n4 + 1))] w5)) ∧
  ((decide (n4 < 16)) = false →
  ∃ z22 : Array Value, z22.size = 16 ∧ bigAt w3 ⟨k1, 0, none⟩ z22 ∧
  ∃ w6, (Instr.storeAt 139 (.pointer (some ⟨k0, 0, none⟩)) (.agg z22)).run Try.prog w3 = .ok () w6 ∧
  ∃ zr0 : Array Value, zr0.size = 16 ∧ bigAt w6 ⟨k0, 0, none⟩ zr0 ∧
  R (.agg zr0) w6)
theorem crc_table_eq (w : World) (R : Value → World → Prop) : crc_table w R = fnP Try.prog Try.f75 (.s .o (.s .o (.s (.s .o (.b (.l [(4, .one (.int .i64))] (.s .o (.s .o (.s (.b (.s .o (.s .o (.s (.s .o (.b (.l [(3, .one (.int .u32)), (9, .one (.int .i64))] .o))) .o)))) .o)))))) .o))) [] w R := by kernel_rfl
theorem crc_table_calls {w : World} {R : Value → World → Prop} (h : crc_table w R) : Calls Try.prog 75 #[] w fun e w1 => ∃ v, e = .returned v ∧ R v w1 := fnP_calls callable Try.func75 (crc_table_eq w R ▸ h)

/-- revetment/crc.More$1 -/
def crc_More_1 (k0 : Addr) (k1 : Addr) (w : World) (R : Value → World → Prop) : Prop :=
  ∃ D : World → Prop, D w.drew ∧
  ∃ n2 : Int, (∀ w, D w → w.cell? k0 = some (.int .u32 n2)) ∧
  ∃ n4 : Int, (∀ w, D w → w.cell? k0 = some (.int .u32 n4)) ∧
  (0 : Int) ≤ (bits2 .and .u32 n4 15) ∧ (bits2 .and .u32 n4 15) < (16 : Int) ∧
  ∃ n7 : Int, (∀ w, D w → w.cell? (Addr.add k1 ((bits2 .and .u32 n4 15).toNat * 1)) = some (.int .u32 n7)) ∧
  St k0 (.int .u32 (bits2 .xor .u32 (Int.fdiv n2 (2 ^ 4)) n7)) w.drew fun w1 =>
  R (.tuple #[]) w1
theorem crc_More_1_eq (k0 : Addr) (k1 : Addr) (w : World) (R : Value → World → Prop) : crc_More_1 k0 k1 w R = fnP Try.prog Try.f76 .o [.pointer (some k0), .pointer (some k1)] w R := by kernel_rfl
theorem crc_More_1_calls {k0 : Addr} {k1 : Addr} {w : World} {R : Value → World → Prop} (h : crc_More_1 k0 k1 w R) : Calls Try.prog 76 #[.pointer (some k0), .pointer (some k1)] w fun e w1 => ∃ v, e = .returned v ∧ R v w1 := fnP_calls callable Try.func76 (crc_More_1_eq k0 k1 w R ▸ h)

/-- cmp.Less[int] -/
def cmp_Less_int (n0 : Int) (n1 : Int) (w : World) (R : Value → World → Prop) : Prop :=
  Calls Try.prog 101 #[.int .i64 n0] w fun e w1 => ∃ b6 : Bool, e = .returned (.bool b6) ∧
  (b6 = true →
  Calls Try.prog 101 #[.int .i64 n1] w1 fun e_1 w2 => ∃ b9 : Bool, e_1 = .returned (.bool b9) ∧
  ((!b9) = true →
  R (.bool true) w2) ∧
  ((!b9) = false →
  R (.bool (decide (n0 < n1))) w2)) ∧
  (b6 = false →
  R (.bool (decide (n0 < n1))) w1)
theorem cmp_Less_int_eq (n0 : Int) (n1 : Int) (w : World) (R : Value → World → Prop) : cmp_Less_int n0 n1 w R = fnP Try.prog Try.f91 .o [.int .i64 n0, .int .i64 n1] w R := by kernel_rfl
theorem cmp_Less_int_calls {n0 : Int} {n1 : Int} {w : World} {R : Value → World → Prop} (h : cmp_Less_int n0 n1 w R) : Calls Try.prog 91 #[.int .i64 n0, .int .i64 n1] w fun e w1 => ∃ v, e = .returned v ∧ R v w1 := fnP_calls callable Try.func91 (cmp_Less_int_eq n0 n1 w R ▸ h)

/-- cmp.isNaN[int] -/
def cmp_isNaN_int (n0 : Int) (w : World) (R : Value → World → Prop) : Prop :=
  R (.bool (n0 != n0)) w
theorem cmp_isNaN_int_eq (n0 : Int) (w : World) (R : Value → World → Prop) : cmp_isNaN_int n0 w R = fnP Try.prog Try.f101 .o [.int .i64 n0] w R := by kernel_rfl
theorem cmp_isNaN_int_calls {n0 : Int} {w : World} {R : Value → World → Prop} (h : cmp_isNaN_int n0 w R) : Calls Try.prog 101 #[.int .i64 n0] w fun e w1 => ∃ v, e = .returned v ∧ R v w1 := fnP_calls callable Try.func101 (cmp_isNaN_int_eq n0 w R ▸ h)

/-- (*strings.Builder).WriteString -/
def strings_Builder_WriteString (p0 : Option Addr) (s1 : ByteArray) (w : World) (R : Value → World → Prop) : Prop :=
  Calls Try.prog 71 #[.pointer p0] w fun e w1 => e = .returned (.tuple #[]) ∧
  ∃ a10 : Addr, p0 = some a10 ∧
  ∃ (p12 : Option Addr) (l12 c12 : Nat), w1.cell? (a10.add 1) = some (.slice p12 l12 c12) ∧
  ∃ (p14 : Option Addr) (l14 c14 : Nat), ∃ w2, (builtin .append #[22, 9] 22 #[false, false] #[.slice p12 l12 c12, .string s1]).run Try.prog w1 = .ok (.value (.slice p14 l14 c14)) w2 ∧
  ∃ a15 : Addr, p0 = some a15 ∧
  St (a15.add 1) (.slice p14 l14 c14) w2 fun w3 =>
  R (.tuple #[.int .i64 (s1.size : Int), .nilIface]) w3
theorem strings_Builder_WriteString_eq (p0 : Option Addr) (s1 : ByteArray) (w : World) (R : Value → World → Prop) : strings_Builder_WriteString p0 s1 w R = fnP Try.prog Try.f49 .o [.pointer p0, .string s1] w R := by kernel_rfl
theorem strings_Builder_WriteString_calls {p0 : Option Addr} {s1 : ByteArray} {w : World} {R : Value → World → Prop} (h : strings_Builder_WriteString p0 s1 w R) : Calls Try.prog 49 #[.pointer p0, .string s1] w fun e w1 => ∃ v, e = .returned v ∧ R v w1 := fnP_calls callable Try.func49 (strings_Builder_WriteString_eq p0 s1 w R ▸ h)

/-- (*strings.Builder).WriteByte -/
def strings_Builder_WriteByte (p0 : Option Addr) (n1 : Int) (w : World) (R : Value → World → Prop) : Prop :=
  Calls Try.prog 71 #[.pointer p0] w fun e w1 => e = .returned (.tuple #[]) ∧
  ∃ a9 : Addr, p0 = some a9 ∧
  ∃ (p11 : Option Addr) (l11 c11 : Nat), w1.cell? (a9.add 1) = some (.slice p11 l11 c11) ∧
  Alloc #[.int .u8 n1] 5 w1 fun k13 w2 =>
  ∃ (p14 : Option Addr) (l14 c14 : Nat), ∃ w3, (builtin .append #[22, 22] 22 #[false, false] #[.slice p11 l11 c11, .slice (some ⟨k13, 0, none⟩) 1 1]).run Try.prog w2 = .ok (.value (.slice p14 l14 c14)) w3 ∧
  ∃ a15 : Addr, p0 = some a15 ∧
  St (a15.add 1) (.slice p14 l14 c14) w3 fun w4 =>
  R (.nilIface) w4
theorem strings_Builder_WriteByte_eq (p0 : Option Addr) (n1 : Int) (w : World) (R : Value → World → Prop) : strings_Builder_WriteByte p0 n1 w R = fnP Try.prog Try.f64 .o [.pointer p0, .int .u8 n1] w R := by kernel_rfl
theorem strings_Builder_WriteByte_calls {p0 : Option Addr} {n1 : Int} {w : World} {R : Value → World → Prop} (h : strings_Builder_WriteByte p0 n1 w R) : Calls Try.prog 64 #[.pointer p0, .int .u8 n1] w fun e w1 => ∃ v, e = .returned v ∧ R v w1 := fnP_calls callable Try.func64 (strings_Builder_WriteByte_eq p0 n1 w R ▸ h)

end Go.Proofs.Ytbecjmfcppginaa
