import Derived.Test.YtedbbdeeofdepaaGreatDoorM2
import Derived.Test.YtedbbdeeofdepaaGreatDoorM17
/-! The formulas of Go functions, printed by a program of this session (shprint.py), each tied to the loaded function by the kernel. -/
namespace Go.Proofs.YtedbbdeeofdepaaGreatDoor
open Go.Sh
set_option linter.unusedVariables false
set_option maxRecDepth 100000
/-- revetment/revetmentlaw19.MendOff -/
def revetmentlaw19_MendOff (n0 : Int) (n1 : Int) (p2 : Option Addr) (l2 c2 : Nat) (n3 : Int) (n4 : Int) (p5 : Option Addr) (l5 c5 : Nat) (w : World) (R : Value → World → Prop) : Prop :=
  ((decide ((l2 : Int) > 10)) = true →
  Calls Tryz.prog 8 #[] w fun e w1 => ∃ b41 : Bool, e = .returned (.bool b41) ∧
  R (.bool b41) w1) ∧
  ((decide ((l2 : Int) > 10)) = false →
  ((decide ((l5 : Int) > 50)) = true →
  Calls Tryz.prog 8 #[] w fun e_1 w2 => ∃ b41_1 : Bool, e_1 = .returned (.bool b41_1) ∧
  R (.bool b41_1) w2) ∧
  ((decide ((l5 : Int) > 50)) = false →
  Calls Tryz.prog 8 #[] w fun e_2 w3 => ∃ b38 : Bool, e_2 = .returned (.bool b38) ∧
  ((!b38) = true →
  Calls Tryz.prog 8 #[] w3 fun e_3 w4 => ∃ b41_2 : Bool, e_3 = .returned (.bool b41_2) ∧
  R (.bool b41_2) w4) ∧
  ((!b38) = false →
  LoopP (fun I => I [.int .i64 0] w3) fun K vs w5 => ∃ n13 : Int, vs = [.int .i64 n13] ∧
  ((decide (n13 < (l2 : Int))) = true →
  ∃ a50 : Addr, p2 = some a50 ∧ (0 : Int) ≤ n13 ∧ n13 < (l2 : Int) ∧
  ∃ s51 : ByteArray, w5.cell? (Addr.add a50 (n13.toNat * 1)) = some (.string s51) ∧
  ((decide ((s51.size : Int) > 100)) = true →
  Calls Tryz.prog 8 #[] w5 fun e_4 w6 => ∃ b54 : Bool, e_4 = .returned (.bool b54) ∧
  R (.bool b54) w6) ∧
  ((decide ((s51.size : Int) > 100)) = false →
  K [.int .i64 (IntKind.i64.wrap (n13 + 1))] w5)) ∧
  ((decide (n13 < (l2 : Int))) = false →
  Calls Tryz.prog 9 #[.int .u8 n0, .int .u8 n1, .int .u8 0] w5 fun e_5 w7 => ∃ n57_0 : Int, ∃ n57_1 : Int, ∃ n57_2 : Int, e_5 = .returned (.agg #[.int .i64 n57_0, .int .i64 n57_1, .int .i64 n57_2]) ∧
  Alloc #[.int .i64 0, .int .i64 0, .int .i64 0] 25 w7 fun k14 w8 =>
  St ⟨k14, 0, none⟩ (.int .i64 n57_0) w8 fun w9 =>
  St ⟨k14, 1, none⟩ (.int .i64 n57_1) w9 fun w10 =>
  St ⟨k14, 2, none⟩ (.int .i64 n57_2) w10 fun w11 =>
  ∃ n59_0 : Int, ∃ n59_1 : Int, ∃ n59_2 : Int, (w11.cell? ⟨k14, 0, none⟩ = some (.int .i64 n59_0) ∧ w11.cell? ⟨k14, 1, none⟩ = some (.int .i64 n59_1) ∧ w11.cell? ⟨k14, 2, none⟩ = some (.int .i64 n59_2)) ∧
  Calls Tryz.prog 10 #[.agg #[.int .i64 n59_0, .int .i64 n59_1, .int .i64 n59_2]] w11 fun e_6 w12 => ∃ n60_0_0 : Int, ∃ n60_0_1 : Int, ∃ n60_0_2 : Int, ∃ (p60_0_3 : Option Addr) (l60_0_3 c60_0_3 : Nat), ∃ (p60_0_4 : Option Addr) (l60_0_4 c60_0_4 : Nat), ∃ n60_1_0 : Int, ∃ n60_1_1 : Int, ∃ n60_1_2 : Int, ∃ (p60_1_3 : Option Addr) (l60_1_3 c60_1_3 : Nat), ∃ (p60_1_4 : Option Addr) (l60_1_4 c60_1_4 : Nat), ∃ b60_2 : Bool, e_6 = .returned (.tuple #[.agg #[.int .i64 n60_0_0, .int .i64 n60_0_1, .int .i64 n60_0_2, .slice p60_0_3 l60_0_3 c60_0_3, .slice p60_0_4 l60_0_4 c60_0_4], .agg #[.int .i64 n60_1_0, .int .i64 n60_1_1, .int .i64 n60_1_2, .slice p60_1_3 l60_1_3 c60_1_3, .slice p60_1_4 l60_1_4 c60_1_4], .bool b60_2]) ∧
  Alloc #[.int .i64 0, .int .i64 0, .int .i64 0, .slice none 0 0, .slice none 0 0] 30 w12 fun k15 w13 =>
  Alloc #[.int .i64 0, .int .i64 0, .int .i64 0, .slice none 0 0, .slice none 0 0] 33 w13 fun k16 w14 =>
  St ⟨k15, 0, none⟩ (.int .i64 n60_0_0) w14 fun w15 =>
  St ⟨k15, 1, none⟩ (.int .i64 n60_0_1) w15 fun w16 =>
  St ⟨k15, 2, none⟩ (.int .i64 n60_0_2) w16 fun w17 =>
  St ⟨k15, 3, none⟩ (.slice p60_0_3 l60_0_3 c60_0_3) w17 fun w18 =>
  St ⟨k15, 4, none⟩ (.slice p60_0_4 l60_0_4 c60_0_4) w18 fun w19 =>
  St ⟨k16, 0, none⟩ (.int .i64 n60_1_0) w19 fun w20 =>
  St ⟨k16, 1, none⟩ (.int .i64 n60_1_1) w20 fun w21 =>
  St ⟨k16, 2, none⟩ (.int .i64 n60_1_2) w21 fun w22 =>
  St ⟨k16, 3, none⟩ (.slice p60_1_3 l60_1_3 c60_1_3) w22 fun w23 =>
  St ⟨k16, 4, none⟩ (.slice p60_1_4 l60_1_4 c60_1_4) w23 fun w24 =>
  ((!b60_2) = true →
  R (.bool false) w24) ∧
  ((!b60_2) = false →
  LoopP (fun I_1 => I_1 [.int .i64 0] w24) fun K_1 vs_1 w25 => ∃ n18 : Int, vs_1 = [.int .i64 n18] ∧
  ∃ n68 : Int, w25.cell? ⟨k14, 1, none⟩ = some (.int .i64 n68) ∧
  ((decide (n18 < n68)) = true →
  ∃ n73_0 : Int, ∃ n73_1 : Int, ∃ n73_2 : Int, ∃ (p73_3 : Option Addr) (l73_3 c73_3 : Nat), ∃ (p73_4 : Option Addr) (l73_4 c73_4 : Nat), (w25.cell? ⟨k15, 0, none⟩ = some (.int .i64 n73_0) ∧ w25.cell? ⟨k15, 1, none⟩ = some (.int .i64 n73_1) ∧ w25.cell? ⟨k15, 2, none⟩ = some (.int .i64 n73_2) ∧ w25.cell? ⟨k15, 3, none⟩ = some (.slice p73_3 l73_3 c73_3) ∧ w25.cell? ⟨k15, 4, none⟩ = some (.slice p73_4 l73_4 c73_4)) ∧
  Calls Tryz.prog 11 #[.agg #[.int .i64 n73_0, .int .i64 n73_1, .int .i64 n73_2, .slice p73_3 l73_3 c73_3, .slice p73_4 l73_4 c73_4], .int .i64 0, .int .i64 n18, .slice p2 l2 c2] w25 fun e_7 w26 => ∃ (p76_0 : Option Addr) (l76_0 c76_0 : Nat), ∃ b76_1 : Bool, e_7 = .returned (.tuple #[.slice p76_0 l76_0 c76_0, .bool b76_1]) ∧
  ((!b76_1) = true →
  R (.bool false) w26) ∧
  ((!b76_1) = false →
  K_1 [.int .i64 (IntKind.i64.wrap (n18 + 1))] w26)) ∧
  ((decide (n18 < n68)) = false →
  ∃ n84 : Int, w25.cell? ⟨k14, 0, none⟩ = some (.int .i64 n84) ∧
  n84 ≠ 0 ∧
  ∃ D : World → Prop, D w25.drew ∧
  ∃ (p87 : Option Addr) (l87 c87 : Nat), (∀ w, D w → w.cell? ⟨k15, 3, none⟩ = some (.slice p87 l87 c87)) ∧
  ∃ n90 : Int, (∀ w, D w → w.cell? ⟨k14, 2, none⟩ = some (.int .i64 n90)) ∧
  ∃ n92 : Int, (∀ w, D w → w.cell? ⟨k14, 1, none⟩ = some (.int .i64 n92)) ∧
  Calls Tryz.prog 20 #[.int .i64 (IntKind.i64.wrap (4 + (IntKind.i64.wrap (n90 * n92))))] w25.drew fun e_8 w27 => ∃ p95 : Option Addr, e_8 = .returned (.pointer p95) ∧
  D w27 ∧
  ∃ a96 : Addr, p87 = some a96 ∧ (0 : Int) ≤ Int.tmod (IntKind.i64.wrap n3) n84 ∧ (Int.tmod (IntKind.i64.wrap n3) n84) < (l87 : Int) ∧
  St (Addr.add a96 ((Int.tmod (IntKind.i64.wrap n3) n84).toNat * 1)) (.pointer p95) w27 fun w28 =>
  ∃ (p98 : Option Addr) (l98 c98 : Nat), w28.cell? ⟨k15, 4, none⟩ = some (.slice p98 l98 c98) ∧
  ∃ a100 : Addr, p98 = some a100 ∧ (0 : Int) ≤ Int.tmod (IntKind.i64.wrap n3) n84 ∧ (Int.tmod (IntKind.i64.wrap n3) n84) < (l98 : Int) ∧
  St (Addr.add a100 ((Int.tmod (IntKind.i64.wrap n3) n84).toNat * 1)) (.int .i64 0) w28 fun w29 =>
  ∃ (p102 : Option Addr) (l102 c102 : Nat), w29.cell? ⟨k15, 3, none⟩ = some (.slice p102 l102 c102) ∧
  ∃ a104 : Addr, p102 = some a104 ∧ (0 : Int) ≤ Int.tmod (IntKind.i64.wrap n3) n84 ∧ (Int.tmod (IntKind.i64.wrap n3) n84) < (l102 : Int) ∧
  ∃ p105 : Option Addr, w29.cell? (Addr.add a104 ((Int.tmod (IntKind.i64.wrap n3) n84).toNat * 1)) = some (.pointer p105) ∧
  ((Option.isNone p105) = true →
  R (.bool false) w29) ∧
  ((Option.isNone p105) = false →
  ∃ (p108 : Option Addr) (l108 c108 : Nat), w29.cell? ⟨k15, 3, none⟩ = some (.slice p108 l108 c108) ∧
  ∃ a110 : Addr, p108 = some a110 ∧ (0 : Int) ≤ Int.tmod (IntKind.i64.wrap n3) n84 ∧ (Int.tmod (IntKind.i64.wrap n3) n84) < (l108 : Int) ∧
  ∃ p111 : Option Addr, w29.cell? (Addr.add a110 ((Int.tmod (IntKind.i64.wrap n3) n84).toNat * 1)) = some (.pointer p111) ∧
  Calls Tryz.prog 24 #[.pointer p111, .int .i64 (Int.tmod (IntKind.i64.wrap n4) 6)] w29 fun e_9 w30 => e_9 = .returned (.tuple #[]) ∧
  ∃ n116_0 : Int, ∃ n116_1 : Int, ∃ n116_2 : Int, ∃ (p116_3 : Option Addr) (l116_3 c116_3 : Nat), ∃ (p116_4 : Option Addr) (l116_4 c116_4 : Nat), (w30.cell? ⟨k15, 0, none⟩ = some (.int .i64 n116_0) ∧ w30.cell? ⟨k15, 1, none⟩ = some (.int .i64 n116_1) ∧ w30.cell? ⟨k15, 2, none⟩ = some (.int .i64 n116_2) ∧ w30.cell? ⟨k15, 3, none⟩ = some (.slice p116_3 l116_3 c116_3) ∧ w30.cell? ⟨k15, 4, none⟩ = some (.slice p116_4 l116_4 c116_4)) ∧
  Calls Tryz.prog 22 #[.agg #[.int .i64 n116_0, .int .i64 n116_1, .int .i64 n116_2, .slice p116_3 l116_3 c116_3, .slice p116_4 l116_4 c116_4], .int .i64 0, .int .i64 (Int.tmod (IntKind.i64.wrap n3) n84)] w30 fun e_10 w31 => ∃ n118 : Int, e_10 = .returned (.int .i64 n118) ∧
  Join (fun vs_2 w32 => vs_2 = [] ∧
  ∃ (p137 : Option Addr) (l137 c137 : Nat), w32.cell? ⟨k15, 3, none⟩ = some (.slice p137 l137 c137) ∧
  ∃ a139 : Addr, p137 = some a139 ∧ (0 : Int) ≤ Int.tmod (IntKind.i64.wrap n3) n84 ∧ (Int.tmod (IntKind.i64.wrap n3) n84) < (l137 : Int) ∧
  ∃ p140 : Option Addr, w32.cell? (Addr.add a139 ((Int.tmod (IntKind.i64.wrap n3) n84).toNat * 1)) = some (.pointer p140) ∧
  Calls Tryz.prog 25 #[.pointer p140, .slice p5 l5 c5] w32 fun e_11 w33 => e_11 = .returned (.tuple #[]) ∧
  LoopP (fun I_2 => I_2 [.int .i64 0] w33) fun K_2 vs_3 w34 => ∃ n23 : Int, vs_3 = [.int .i64 n23] ∧
  ∃ n145 : Int, w34.cell? ⟨k14, 1, none⟩ = some (.int .i64 n145) ∧
  ((decide (n23 < n145)) = true →
  ∃ n150_0 : Int, ∃ n150_1 : Int, ∃ n150_2 : Int, ∃ (p150_3 : Option Addr) (l150_3 c150_3 : Nat), ∃ (p150_4 : Option Addr) (l150_4 c150_4 : Nat), (w34.cell? ⟨k15, 0, none⟩ = some (.int .i64 n150_0) ∧ w34.cell? ⟨k15, 1, none⟩ = some (.int .i64 n150_1) ∧ w34.cell? ⟨k15, 2, none⟩ = some (.int .i64 n150_2) ∧ w34.cell? ⟨k15, 3, none⟩ = some (.slice p150_3 l150_3 c150_3) ∧ w34.cell? ⟨k15, 4, none⟩ = some (.slice p150_4 l150_4 c150_4)) ∧
  Calls Tryz.prog 23 #[.agg #[.int .i64 n150_0, .int .i64 n150_1, .int .i64 n150_2, .slice p150_3 l150_3 c150_3, .slice p150_4 l150_4 c150_4], .int .i64 0, .int .i64 n23] w34 fun e_12 w35 => ∃ (p152_0 : Option Addr) (l152_0 c152_0 : Nat), ∃ (p152_1 : Option Addr) (l152_1 c152_1 : Nat), ∃ n152_2 : Int, e_12 = .returned (.tuple #[.slice p152_0 l152_0 c152_0, .slice p152_1 l152_1 c152_1, .int .i64 n152_2]) ∧
  ((n152_2 != 0) = true →
  R (.bool false) w35) ∧
  ((n152_2 != 0) = false →
  (((l152_1 : Int) != 1) = true →
  R (.bool false) w35) ∧
  (((l152_1 : Int) != 1) = false →
  Calls Tryz.prog 19 #[.slice p152_0 l152_0 c152_0] w35 fun e_13 w36 => ∃ b165 : Bool, e_13 = .returned (.bool b165) ∧
  ((!b165) = true →
  R (.bool false) w36) ∧
  ((!b165) = false →
  LoopP (fun I_3 => I_3 [.int .i64 0] w36) fun K_3 vs_4 w37 => ∃ n27 : Int, vs_4 = [.int .i64 n27] ∧
  ∃ n170 : Int, w37.cell? ⟨k14, 0, none⟩ = some (.int .i64 n170) ∧
  ((decide (n27 < (IntKind.i64.wrap (n170 - 2)))) = true →
  Calls Tryz.prog 14 #[.string (ByteArray.mk #[])] w37 fun e_14 w38 => ∃ s175 : ByteArray, e_14 = .returned (.string s175) ∧
  Join (fun vs_5 w39 => ∃ s28 : ByteArray, vs_5 = [.string s28] ∧
  ∃ a187 : Addr, p152_0 = some a187 ∧ (0 : Int) ≤ n27 ∧ n27 < (l152_0 : Int) ∧
  ∃ s188 : ByteArray, w39.cell? (Addr.add a187 (n27.toNat * 1)) = some (.string s188) ∧
  ((!(s188.toList == s28.toList)) = true →
  R (.bool false) w39) ∧
  ((!(s188.toList == s28.toList)) = false →
  K_3 [.int .i64 (IntKind.i64.wrap (n27 + 1))] w39)) fun J_1 =>
  ((decide (n27 < (l2 : Int))) = true →
  ∃ a182 : Addr, p2 = some a182 ∧ (0 : Int) ≤ n27 ∧ n27 < (l2 : Int) ∧
  ∃ s183 : ByteArray, w38.cell? (Addr.add a182 (n27.toNat * 1)) = some (.string s183) ∧
  Calls Tryz.prog 14 #[.string s183] w38 fun e_15 w40 => ∃ s184 : ByteArray, e_15 = .returned (.string s184) ∧
  J_1 [.string s184] w40) ∧
  ((decide (n27 < (l2 : Int))) = false →
  J_1 [.string s175] w38)) ∧
  ((decide (n27 < (IntKind.i64.wrap (n170 - 2)))) = false →
  K_2 [.int .i64 (IntKind.i64.wrap (n23 + 1))] w37))))) ∧
  ((decide (n23 < n145)) = false →
  R (.bool true) w34)) fun J =>
  ∃ n125 : Int, w31.cell? ⟨k14, 1, none⟩ = some (.int .i64 n125) ∧
  ((!((n118 == 0) == (decide ((Int.tmod (IntKind.i64.wrap n4) 6) > n125)))) = true →
  R (.bool false) w31) ∧
  ((!((n118 == 0) == (decide ((Int.tmod (IntKind.i64.wrap n4) 6) > n125)))) = false →
  ((n118 != 0) = true →
  ((n118 != 42) = true →
  R (.bool false) w31) ∧
  ((n118 != 42) = false →
  J [] w31)) ∧
  ((n118 != 0) = false →
  J [] w31)))))))))
theorem revetmentlaw19_MendOff_eq (n0 : Int) (n1 : Int) (p2 : Option Addr) (l2 c2 : Nat) (n3 : Int) (n4 : Int) (p5 : Option Addr) (l5 c5 : Nat) (w : World) (R : Value → World → Prop) : revetmentlaw19_MendOff n0 n1 p2 l2 c2 n3 n4 p5 l5 c5 w R = fnP Tryz.prog Tryz.f6 (.s .o (.s .o (.s (.s .o (.b (.l [(13, .one (.int .i64))] .o))) (.s .o (.s .o (.s .o (.s (.s .o (.b (.l [(18, .one (.int .i64))] .o))) (.s .o (.s .o (.s .o (.s .o (.s .o (.s .o (.j [] .o (.s .o (.s (.s .o (.b (.l [(23, .one (.int .i64))] (.s .o (.s (.b (.s .o (.s .o (.s .o (.b (.l [(27, .one (.int .i64))] (.s .o (.s (.b (.s .o (.j [(28, .one .str)] .o .o))) .o)))))))) .o))))) .o)))))))))))))))) [.int .u8 n0, .int .u8 n1, .slice p2 l2 c2, .int .u8 n3, .int .u8 n4, .slice p5 l5 c5] w R := by kernel_rfl
theorem revetmentlaw19_MendOff_calls {n0 : Int} {n1 : Int} {p2 : Option Addr} {l2 c2 : Nat} {n3 : Int} {n4 : Int} {p5 : Option Addr} {l5 c5 : Nat} {w : World} {R : Value → World → Prop} (h : revetmentlaw19_MendOff n0 n1 p2 l2 c2 n3 n4 p5 l5 c5 w R) : Calls Tryz.prog 6 #[.int .u8 n0, .int .u8 n1, .slice p2 l2 c2, .int .u8 n3, .int .u8 n4, .slice p5 l5 c5] w fun e w1 => ∃ v, e = .returned v ∧ R v w1 := fnP_calls callable Tryz.func6 (revetmentlaw19_MendOff_eq n0 n1 p2 l2 c2 n3 n4 p5 l5 c5 w R ▸ h)

end Go.Proofs.YtedbbdeeofdepaaGreatDoor
