import Derived.Test.YtedbbdeeofdepaaGreatDoorM2
import Derived.Test.YtedbbdeeofdepaaGreatDoorM17
/-! The formulas of Go functions, printed by a program of this session (shprint.py), each tied to the loaded function by the kernel. -/
namespace Go.Proofs.YtedbbdeeofdepaaGreatDoor
open Go.Sh
set_option linter.unusedVariables false
set_option maxRecDepth 100000
/-- revetment/revetmentlaw19.MendResyncs -/
def revetmentlaw19_MendResyncs (n0 : Int) (n1 : Int) (p2 : Option Addr) (l2 c2 : Nat) (w : World) (R : Value → World → Prop) : Prop :=
  ((decide ((l2 : Int) > 60)) = true →
  Calls Tryz.prog 8 #[] w fun e w1 => ∃ b29 : Bool, e = .returned (.bool b29) ∧
  R (.bool b29) w1) ∧
  ((decide ((l2 : Int) > 60)) = false →
  Calls Tryz.prog 8 #[] w fun e_1 w2 => ∃ b26 : Bool, e_1 = .returned (.bool b26) ∧
  ((!b26) = true →
  Calls Tryz.prog 8 #[] w2 fun e_2 w3 => ∃ b29_1 : Bool, e_2 = .returned (.bool b29_1) ∧
  R (.bool b29_1) w3) ∧
  ((!b26) = false →
  Calls Tryz.prog 9 #[.int .u8 n0, .int .u8 n1, .int .u8 0] w2 fun e_3 w4 => ∃ n32_0 : Int, ∃ n32_1 : Int, ∃ n32_2 : Int, e_3 = .returned (.agg #[.int .i64 n32_0, .int .i64 n32_1, .int .i64 n32_2]) ∧
  Alloc #[.int .i64 0, .int .i64 0, .int .i64 0] 25 w4 fun k7 w5 =>
  St ⟨k7, 0, none⟩ (.int .i64 n32_0) w5 fun w6 =>
  St ⟨k7, 1, none⟩ (.int .i64 n32_1) w6 fun w7 =>
  St ⟨k7, 2, none⟩ (.int .i64 n32_2) w7 fun w8 =>
  ∃ n34_0 : Int, ∃ n34_1 : Int, ∃ n34_2 : Int, (w8.cell? ⟨k7, 0, none⟩ = some (.int .i64 n34_0) ∧ w8.cell? ⟨k7, 1, none⟩ = some (.int .i64 n34_1) ∧ w8.cell? ⟨k7, 2, none⟩ = some (.int .i64 n34_2)) ∧
  Calls Tryz.prog 10 #[.agg #[.int .i64 n34_0, .int .i64 n34_1, .int .i64 n34_2]] w8 fun e_4 w9 => ∃ n35_0_0 : Int, ∃ n35_0_1 : Int, ∃ n35_0_2 : Int, ∃ (p35_0_3 : Option Addr) (l35_0_3 c35_0_3 : Nat), ∃ (p35_0_4 : Option Addr) (l35_0_4 c35_0_4 : Nat), ∃ n35_1_0 : Int, ∃ n35_1_1 : Int, ∃ n35_1_2 : Int, ∃ (p35_1_3 : Option Addr) (l35_1_3 c35_1_3 : Nat), ∃ (p35_1_4 : Option Addr) (l35_1_4 c35_1_4 : Nat), ∃ b35_2 : Bool, e_4 = .returned (.tuple #[.agg #[.int .i64 n35_0_0, .int .i64 n35_0_1, .int .i64 n35_0_2, .slice p35_0_3 l35_0_3 c35_0_3, .slice p35_0_4 l35_0_4 c35_0_4], .agg #[.int .i64 n35_1_0, .int .i64 n35_1_1, .int .i64 n35_1_2, .slice p35_1_3 l35_1_3 c35_1_3, .slice p35_1_4 l35_1_4 c35_1_4], .bool b35_2]) ∧
  Alloc #[.int .i64 0, .int .i64 0, .int .i64 0, .slice none 0 0, .slice none 0 0] 30 w9 fun k8 w10 =>
  Alloc #[.int .i64 0, .int .i64 0, .int .i64 0, .slice none 0 0, .slice none 0 0] 33 w10 fun k9 w11 =>
  St ⟨k8, 0, none⟩ (.int .i64 n35_0_0) w11 fun w12 =>
  St ⟨k8, 1, none⟩ (.int .i64 n35_0_1) w12 fun w13 =>
  St ⟨k8, 2, none⟩ (.int .i64 n35_0_2) w13 fun w14 =>
  St ⟨k8, 3, none⟩ (.slice p35_0_3 l35_0_3 c35_0_3) w14 fun w15 =>
  St ⟨k8, 4, none⟩ (.slice p35_0_4 l35_0_4 c35_0_4) w15 fun w16 =>
  St ⟨k9, 0, none⟩ (.int .i64 n35_1_0) w16 fun w17 =>
  St ⟨k9, 1, none⟩ (.int .i64 n35_1_1) w17 fun w18 =>
  St ⟨k9, 2, none⟩ (.int .i64 n35_1_2) w18 fun w19 =>
  St ⟨k9, 3, none⟩ (.slice p35_1_3 l35_1_3 c35_1_3) w19 fun w20 =>
  St ⟨k9, 4, none⟩ (.slice p35_1_4 l35_1_4 c35_1_4) w20 fun w21 =>
  ((!b35_2) = true →
  R (.bool false) w21) ∧
  ((!b35_2) = false →
  LoopP (fun I => I [.int .i64 0] w21) fun K vs w22 => ∃ n11 : Int, vs = [.int .i64 n11] ∧
  ((decide (n11 < (l2 : Int))) = true →
  ∃ a49 : Addr, p2 = some a49 ∧ (0 : Int) ≤ n11 ∧ n11 < (l2 : Int) ∧
  ∃ s50 : ByteArray, w22.cell? (Addr.add a49 (n11.toNat * 1)) = some (.string s50) ∧
  ((decide ((s50.size : Int) > 100)) = true →
  Calls Tryz.prog 8 #[] w22 fun e_5 w23 => ∃ b53 : Bool, e_5 = .returned (.bool b53) ∧
  R (.bool b53) w23) ∧
  ((decide ((s50.size : Int) > 100)) = false →
  ∃ D : World → Prop, D w22.drew ∧
  ∃ (p55 : Option Addr) (l55 c55 : Nat), (∀ w, D w → w.cell? ⟨k8, 3, none⟩ = some (.slice p55 l55 c55)) ∧
  ∃ n58 : Int, (∀ w, D w → w.cell? ⟨k7, 0, none⟩ = some (.int .i64 n58)) ∧
  n58 ≠ 0 ∧
  ∃ a60 : Addr, p55 = some a60 ∧ (0 : Int) ≤ Int.tmod n11 n58 ∧ (Int.tmod n11 n58) < (l55 : Int) ∧
  ∃ p61 : Option Addr, (∀ w, D w → w.cell? (Addr.add a60 ((Int.tmod n11 n58).toNat * 1)) = some (.pointer p61)) ∧
  ∃ n64 : Int, (∀ w, D w → w.cell? ⟨k7, 0, none⟩ = some (.int .i64 n64)) ∧
  n64 ≠ 0 ∧
  ∃ n67 : Int, (∀ w, D w → w.cell? ⟨k7, 1, none⟩ = some (.int .i64 n67)) ∧
  n67 ≠ 0 ∧
  ∃ a72 : Addr, p2 = some a72 ∧ (0 : Int) ≤ n11 ∧ n11 < (l2 : Int) ∧
  ∃ s73 : ByteArray, (∀ w, D w → w.cell? (Addr.add a72 (n11.toNat * 1)) = some (.string s73)) ∧
  Calls Tryz.prog 14 #[.string s73] w22.drew fun e_6 w24 => ∃ s74 : ByteArray, e_6 = .returned (.string s74) ∧
  D w24 ∧
  Calls Tryz.prog 13 #[.pointer p61, .int .i64 (IntKind.i64.wrap (4 + (Int.tmod (IntKind.i64.wrap (Int.tdiv n11 n64)) n67))), .string s74] w24 fun e_7 w25 => ∃ n75 : Int, e_7 = .returned (.int .i64 n75) ∧
  K [.int .i64 (IntKind.i64.wrap (n11 + 1))] w25)) ∧
  ((decide (n11 < (l2 : Int))) = false →
  Alloc #[] 9 w22 fun k76 w26 =>
  LoopP (fun I_1 => I_1 [.slice (some ⟨k76, 0, none⟩) 0 0, .int .i64 0] w26) fun K_1 vs_1 w27 => ∃ (p12 : Option Addr) (l12 c12 : Nat), ∃ n13 : Int, vs_1 = [.slice p12 l12 c12, .int .i64 n13] ∧
  ∃ n79 : Int, w27.cell? ⟨k7, 1, none⟩ = some (.int .i64 n79) ∧
  ((decide (n13 < n79)) = true →
  ∃ n84_0 : Int, ∃ n84_1 : Int, ∃ n84_2 : Int, ∃ (p84_3 : Option Addr) (l84_3 c84_3 : Nat), ∃ (p84_4 : Option Addr) (l84_4 c84_4 : Nat), (w27.cell? ⟨k8, 0, none⟩ = some (.int .i64 n84_0) ∧ w27.cell? ⟨k8, 1, none⟩ = some (.int .i64 n84_1) ∧ w27.cell? ⟨k8, 2, none⟩ = some (.int .i64 n84_2) ∧ w27.cell? ⟨k8, 3, none⟩ = some (.slice p84_3 l84_3 c84_3) ∧ w27.cell? ⟨k8, 4, none⟩ = some (.slice p84_4 l84_4 c84_4)) ∧
  Calls Tryz.prog 17 #[.agg #[.int .i64 n84_0, .int .i64 n84_1, .int .i64 n84_2, .slice p84_3 l84_3 c84_3, .slice p84_4 l84_4 c84_4], .int .i64 0, .int .i64 n13] w27 fun e_8 w28 => ∃ (p86_0 : Option Addr) (l86_0 c86_0 : Nat), ∃ (p86_1 : Option Addr) (l86_1 c86_1 : Nat), ∃ n86_2 : Int, e_8 = .returned (.tuple #[.slice p86_0 l86_0 c86_0, .slice p86_1 l86_1 c86_1, .int .i64 n86_2]) ∧
  ((n86_2 != 0) = true →
  R (.bool false) w28) ∧
  ((n86_2 != 0) = false →
  ∃ n96 : Int, w28.cell? ⟨k7, 0, none⟩ = some (.int .i64 n96) ∧
  (((l86_0 : Int) != n96) = true →
  R (.bool false) w28) ∧
  (((l86_0 : Int) != n96) = false →
  ∃ n102 : Int, w28.cell? ⟨k7, 0, none⟩ = some (.int .i64 n102) ∧
  ∃ (p104 : Option Addr) (l104 c104 : Nat), ∃ w29, (Instr.sliceAt 22 (.slice p86_0 l86_0 c86_0) none (some (.int .i64 (IntKind.i64.wrap (n102 - 2)))) none).run Tryz.prog w28 = .ok (.slice p104 l104 c104) w29 ∧
  ∃ (p105 : Option Addr) (l105 c105 : Nat), ∃ w30, (builtin .append #[22, 22] 22 #[false, false] #[.slice p12 l12 c12, .slice p104 l104 c104]).run Tryz.prog w29 = .ok (.value (.slice p105 l105 c105)) w30 ∧
  K_1 [.slice p105 l105 c105, .int .i64 (IntKind.i64.wrap (n13 + 1))] w30))) ∧
  ((decide (n13 < n79)) = false →
  ∃ n106_0 : Int, ∃ n106_1 : Int, ∃ n106_2 : Int, ∃ (p106_3 : Option Addr) (l106_3 c106_3 : Nat), ∃ (p106_4 : Option Addr) (l106_4 c106_4 : Nat), (w27.cell? ⟨k8, 0, none⟩ = some (.int .i64 n106_0) ∧ w27.cell? ⟨k8, 1, none⟩ = some (.int .i64 n106_1) ∧ w27.cell? ⟨k8, 2, none⟩ = some (.int .i64 n106_2) ∧ w27.cell? ⟨k8, 3, none⟩ = some (.slice p106_3 l106_3 c106_3) ∧ w27.cell? ⟨k8, 4, none⟩ = some (.slice p106_4 l106_4 c106_4)) ∧
  Calls Tryz.prog 18 #[.agg #[.int .i64 n106_0, .int .i64 n106_1, .int .i64 n106_2, .slice p106_3 l106_3 c106_3, .slice p106_4 l106_4 c106_4], .int .i64 0] w27 fun e_9 w31 => ∃ n107 : Int, e_9 = .returned (.int .i64 n107) ∧
  ((n107 != 0) = true →
  R (.bool false) w31) ∧
  ((n107 != 0) = false →
  LoopP (fun I_2 => I_2 [.int .i64 0] w31) fun K_2 vs_2 w32 => ∃ n17 : Int, vs_2 = [.int .i64 n17] ∧
  ∃ n111 : Int, w32.cell? ⟨k7, 1, none⟩ = some (.int .i64 n111) ∧
  ((decide (n17 < n111)) = true →
  ∃ n116_0 : Int, ∃ n116_1 : Int, ∃ n116_2 : Int, ∃ (p116_3 : Option Addr) (l116_3 c116_3 : Nat), ∃ (p116_4 : Option Addr) (l116_4 c116_4 : Nat), (w32.cell? ⟨k8, 0, none⟩ = some (.int .i64 n116_0) ∧ w32.cell? ⟨k8, 1, none⟩ = some (.int .i64 n116_1) ∧ w32.cell? ⟨k8, 2, none⟩ = some (.int .i64 n116_2) ∧ w32.cell? ⟨k8, 3, none⟩ = some (.slice p116_3 l116_3 c116_3) ∧ w32.cell? ⟨k8, 4, none⟩ = some (.slice p116_4 l116_4 c116_4)) ∧
  Calls Tryz.prog 17 #[.agg #[.int .i64 n116_0, .int .i64 n116_1, .int .i64 n116_2, .slice p116_3 l116_3 c116_3, .slice p116_4 l116_4 c116_4], .int .i64 0, .int .i64 n17] w32 fun e_10 w33 => ∃ (p118_0 : Option Addr) (l118_0 c118_0 : Nat), ∃ (p118_1 : Option Addr) (l118_1 c118_1 : Nat), ∃ n118_2 : Int, e_10 = .returned (.tuple #[.slice p118_0 l118_0 c118_0, .slice p118_1 l118_1 c118_1, .int .i64 n118_2]) ∧
  ((n118_2 != 0) = true →
  R (.bool false) w33) ∧
  ((n118_2 != 0) = false →
  Calls Tryz.prog 19 #[.slice p118_0 l118_0 c118_0] w33 fun e_11 w34 => ∃ b126 : Bool, e_11 = .returned (.bool b126) ∧
  ((!b126) = true →
  R (.bool false) w34) ∧
  ((!b126) = false →
  LoopP (fun I_3 => I_3 [.int .i64 0] w34) fun K_3 vs_3 w35 => ∃ n21 : Int, vs_3 = [.int .i64 n21] ∧
  ∃ n131 : Int, w35.cell? ⟨k7, 0, none⟩ = some (.int .i64 n131) ∧
  ((decide (n21 < (IntKind.i64.wrap (n131 - 2)))) = true →
  ∃ D_1 : World → Prop, D_1 w35.drew ∧
  ∃ a138 : Addr, p118_0 = some a138 ∧ (0 : Int) ≤ n21 ∧ n21 < (l118_0 : Int) ∧
  ∃ s139 : ByteArray, (∀ w, D_1 w → w.cell? (Addr.add a138 (n21.toNat * 1)) = some (.string s139)) ∧
  ∃ n143 : Int, (∀ w, D_1 w → w.cell? ⟨k7, 0, none⟩ = some (.int .i64 n143)) ∧
  ∃ a148 : Addr, p12 = some a148 ∧ (0 : Int) ≤ IntKind.i64.wrap ((IntKind.i64.wrap (n17 * (IntKind.i64.wrap (n143 - 2)))) + n21) ∧ (IntKind.i64.wrap ((IntKind.i64.wrap (n17 * (IntKind.i64.wrap (n143 - 2)))) + n21)) < (l12 : Int) ∧
  ∃ s149 : ByteArray, (∀ w, D_1 w → w.cell? (Addr.add a148 ((IntKind.i64.wrap ((IntKind.i64.wrap (n17 * (IntKind.i64.wrap (n143 - 2)))) + n21)).toNat * 1)) = some (.string s149)) ∧
  ((!(s139.toList == s149.toList)) = true →
  R (.bool false) w35.drew) ∧
  ((!(s139.toList == s149.toList)) = false →
  K_3 [.int .i64 (IntKind.i64.wrap (n21 + 1))] w35.drew)) ∧
  ((decide (n21 < (IntKind.i64.wrap (n131 - 2)))) = false →
  K_2 [.int .i64 (IntKind.i64.wrap (n17 + 1))] w35)))) ∧
  ((decide (n17 < n111)) = false →
  R (.bool true) w32)))))))
theorem revetmentlaw19_MendResyncs_eq (n0 : Int) (n1 : Int) (p2 : Option Addr) (l2 c2 : Nat) (w : World) (R : Value → World → Prop) : revetmentlaw19_MendResyncs n0 n1 p2 l2 c2 w R = fnP Tryz.prog Tryz.f4 (.s .o (.s .o (.s .o (.s .o (.s .o (.s (.s .o (.b (.l [(11, .one (.int .i64))] .o))) (.s .o (.s (.s .o (.b (.l [(12, .one .slice), (13, .one (.int .i64))] .o))) (.s .o (.s (.s .o (.b (.l [(17, .one (.int .i64))] (.s .o (.s (.b (.s .o (.s .o (.s .o (.b (.l [(21, .one (.int .i64))] .o)))))) .o))))) .o)))))))))) [.int .u8 n0, .int .u8 n1, .slice p2 l2 c2] w R := by kernel_rfl
theorem revetmentlaw19_MendResyncs_calls {n0 : Int} {n1 : Int} {p2 : Option Addr} {l2 c2 : Nat} {w : World} {R : Value → World → Prop} (h : revetmentlaw19_MendResyncs n0 n1 p2 l2 c2 w R) : Calls Tryz.prog 4 #[.int .u8 n0, .int .u8 n1, .slice p2 l2 c2] w fun e w1 => ∃ v, e = .returned v ∧ R v w1 := fnP_calls callable Tryz.func4 (revetmentlaw19_MendResyncs_eq n0 n1 p2 l2 c2 w R ▸ h)

end Go.Proofs.YtedbbdeeofdepaaGreatDoor
