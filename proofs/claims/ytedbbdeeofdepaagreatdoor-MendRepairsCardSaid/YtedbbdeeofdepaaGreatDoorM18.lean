import Derived.Test.YtedbbdeeofdepaaGreatDoorM2
import Derived.Test.YtedbbdeeofdepaaGreatDoorM17
/-! The formulas of Go functions, printed by a program of this session (shprint.py), each tied to the loaded function by the kernel. -/
namespace Go.Proofs.YtedbbdeeofdepaaGreatDoor
open Go.Sh
set_option linter.unusedVariables false
set_option maxRecDepth 100000
/-- revetment/revetmentlaw19.MendRepairs -/
def revetmentlaw19_MendRepairs (n0 : Int) (n1 : Int) (p2 : Option Addr) (l2 c2 : Nat) (n3 : Int) (p4 : Option Addr) (l4 c4 : Nat) (w : World) (R : Value → World → Prop) : Prop :=
  ((decide ((l2 : Int) > 10)) = true →
  Calls Tryz.prog 8 #[] w fun e w1 => ∃ b46 : Bool, e = .returned (.bool b46) ∧
  R (.bool b46) w1) ∧
  ((decide ((l2 : Int) > 10)) = false →
  ((decide ((l4 : Int) > 10)) = true →
  Calls Tryz.prog 8 #[] w fun e_1 w2 => ∃ b46_1 : Bool, e_1 = .returned (.bool b46_1) ∧
  R (.bool b46_1) w2) ∧
  ((decide ((l4 : Int) > 10)) = false →
  Calls Tryz.prog 8 #[] w fun e_2 w3 => ∃ b43 : Bool, e_2 = .returned (.bool b43) ∧
  ((!b43) = true →
  Calls Tryz.prog 8 #[] w3 fun e_3 w4 => ∃ b46_2 : Bool, e_3 = .returned (.bool b46_2) ∧
  R (.bool b46_2) w4) ∧
  ((!b43) = false →
  Calls Tryz.prog 9 #[.int .u8 n0, .int .u8 n1, .int .u8 0] w3 fun e_4 w5 => ∃ n49_0 : Int, ∃ n49_1 : Int, ∃ n49_2 : Int, e_4 = .returned (.agg #[.int .i64 n49_0, .int .i64 n49_1, .int .i64 n49_2]) ∧
  Alloc #[.int .i64 0, .int .i64 0, .int .i64 0] 25 w5 fun k11 w6 =>
  St ⟨k11, 0, none⟩ (.int .i64 n49_0) w6 fun w7 =>
  St ⟨k11, 1, none⟩ (.int .i64 n49_1) w7 fun w8 =>
  St ⟨k11, 2, none⟩ (.int .i64 n49_2) w8 fun w9 =>
  ∃ n51_0 : Int, ∃ n51_1 : Int, ∃ n51_2 : Int, (w9.cell? ⟨k11, 0, none⟩ = some (.int .i64 n51_0) ∧ w9.cell? ⟨k11, 1, none⟩ = some (.int .i64 n51_1) ∧ w9.cell? ⟨k11, 2, none⟩ = some (.int .i64 n51_2)) ∧
  Calls Tryz.prog 10 #[.agg #[.int .i64 n51_0, .int .i64 n51_1, .int .i64 n51_2]] w9 fun e_5 w10 => ∃ n52_0_0 : Int, ∃ n52_0_1 : Int, ∃ n52_0_2 : Int, ∃ (p52_0_3 : Option Addr) (l52_0_3 c52_0_3 : Nat), ∃ (p52_0_4 : Option Addr) (l52_0_4 c52_0_4 : Nat), ∃ n52_1_0 : Int, ∃ n52_1_1 : Int, ∃ n52_1_2 : Int, ∃ (p52_1_3 : Option Addr) (l52_1_3 c52_1_3 : Nat), ∃ (p52_1_4 : Option Addr) (l52_1_4 c52_1_4 : Nat), ∃ b52_2 : Bool, e_5 = .returned (.tuple #[.agg #[.int .i64 n52_0_0, .int .i64 n52_0_1, .int .i64 n52_0_2, .slice p52_0_3 l52_0_3 c52_0_3, .slice p52_0_4 l52_0_4 c52_0_4], .agg #[.int .i64 n52_1_0, .int .i64 n52_1_1, .int .i64 n52_1_2, .slice p52_1_3 l52_1_3 c52_1_3, .slice p52_1_4 l52_1_4 c52_1_4], .bool b52_2]) ∧
  Alloc #[.int .i64 0, .int .i64 0, .int .i64 0, .slice none 0 0, .slice none 0 0] 30 w10 fun k12 w11 =>
  Alloc #[.int .i64 0, .int .i64 0, .int .i64 0, .slice none 0 0, .slice none 0 0] 33 w11 fun k13 w12 =>
  St ⟨k12, 0, none⟩ (.int .i64 n52_0_0) w12 fun w13 =>
  St ⟨k12, 1, none⟩ (.int .i64 n52_0_1) w13 fun w14 =>
  St ⟨k12, 2, none⟩ (.int .i64 n52_0_2) w14 fun w15 =>
  St ⟨k12, 3, none⟩ (.slice p52_0_3 l52_0_3 c52_0_3) w15 fun w16 =>
  St ⟨k12, 4, none⟩ (.slice p52_0_4 l52_0_4 c52_0_4) w16 fun w17 =>
  St ⟨k13, 0, none⟩ (.int .i64 n52_1_0) w17 fun w18 =>
  St ⟨k13, 1, none⟩ (.int .i64 n52_1_1) w18 fun w19 =>
  St ⟨k13, 2, none⟩ (.int .i64 n52_1_2) w19 fun w20 =>
  St ⟨k13, 3, none⟩ (.slice p52_1_3 l52_1_3 c52_1_3) w20 fun w21 =>
  St ⟨k13, 4, none⟩ (.slice p52_1_4 l52_1_4 c52_1_4) w21 fun w22 =>
  ((!b52_2) = true →
  R (.bool false) w22) ∧
  ((!b52_2) = false →
  ∃ n61 : Int, w22.cell? ⟨k11, 0, none⟩ = some (.int .i64 n61) ∧
  n61 ≠ 0 ∧
  Alloc #[] 9 w22 fun k63 w23 =>
  LoopP (fun I => I [.int .i64 0, .slice (some ⟨k63, 0, none⟩) 0 0, .int .i64 0] w23) fun K vs w24 => ∃ n16 : Int, ∃ (p17 : Option Addr) (l17 c17 : Nat), ∃ n18 : Int, vs = [.int .i64 n16, .slice p17 l17 c17, .int .i64 n18] ∧
  ∃ n66 : Int, w24.cell? ⟨k11, 1, none⟩ = some (.int .i64 n66) ∧
  ((decide (n18 < n66)) = true →
  LoopP (fun I_1 => I_1 [.int .i64 0] w24) fun K_1 vs_1 w25 => ∃ n19 : Int, vs_1 = [.int .i64 n19] ∧
  ((decide (n19 < (l2 : Int))) = true →
  ∃ a78 : Addr, p2 = some a78 ∧ (0 : Int) ≤ n19 ∧ n19 < (l2 : Int) ∧
  ∃ s79 : ByteArray, w25.cell? (Addr.add a78 (n19.toNat * 1)) = some (.string s79) ∧
  ((decide ((s79.size : Int) > 100)) = true →
  Calls Tryz.prog 8 #[] w25 fun e_6 w26 => ∃ b82 : Bool, e_6 = .returned (.bool b82) ∧
  R (.bool b82) w26) ∧
  ((decide ((s79.size : Int) > 100)) = false →
  K_1 [.int .i64 (IntKind.i64.wrap (n19 + 1))] w25)) ∧
  ((decide (n19 < (l2 : Int))) = false →
  ∃ n84_0 : Int, ∃ n84_1 : Int, ∃ n84_2 : Int, ∃ (p84_3 : Option Addr) (l84_3 c84_3 : Nat), ∃ (p84_4 : Option Addr) (l84_4 c84_4 : Nat), (w25.cell? ⟨k12, 0, none⟩ = some (.int .i64 n84_0) ∧ w25.cell? ⟨k12, 1, none⟩ = some (.int .i64 n84_1) ∧ w25.cell? ⟨k12, 2, none⟩ = some (.int .i64 n84_2) ∧ w25.cell? ⟨k12, 3, none⟩ = some (.slice p84_3 l84_3 c84_3) ∧ w25.cell? ⟨k12, 4, none⟩ = some (.slice p84_4 l84_4 c84_4)) ∧
  Calls Tryz.prog 11 #[.agg #[.int .i64 n84_0, .int .i64 n84_1, .int .i64 n84_2, .slice p84_3 l84_3 c84_3, .slice p84_4 l84_4 c84_4], .int .i64 0, .int .i64 n18, .slice p2 l2 c2] w25 fun e_7 w27 => ∃ (p87_0 : Option Addr) (l87_0 c87_0 : Nat), ∃ b87_1 : Bool, e_7 = .returned (.tuple #[.slice p87_0 l87_0 c87_0, .bool b87_1]) ∧
  ((!b87_1) = true →
  R (.bool false) w27) ∧
  ((!b87_1) = false →
  ∃ (p94 : Option Addr) (l94 c94 : Nat), w27.cell? ⟨k12, 3, none⟩ = some (.slice p94 l94 c94) ∧
  ∃ a96 : Addr, p94 = some a96 ∧ (0 : Int) ≤ Int.tmod (IntKind.i64.wrap n3) n61 ∧ (Int.tmod (IntKind.i64.wrap n3) n61) < (l94 : Int) ∧
  ∃ p97 : Option Addr, w27.cell? (Addr.add a96 ((Int.tmod (IntKind.i64.wrap n3) n61).toNat * 1)) = some (.pointer p97) ∧
  Calls Tryz.prog 12 #[.pointer p97, .int .i64 (IntKind.i64.wrap (4 + n18))] w27 fun e_8 w28 => ∃ s100_0 : ByteArray, ∃ n100_1 : Int, e_8 = .returned (.tuple #[.string s100_0, .int .i64 n100_1]) ∧
  ((n100_1 != 0) = true →
  R (.bool false) w28) ∧
  ((n100_1 != 0) = false →
  Alloc #[.string s100_0] 9 w28 fun k107 w29 =>
  ∃ (p108 : Option Addr) (l108 c108 : Nat), ∃ w30, (builtin .append #[22, 22] 22 #[false, false] #[.slice p17 l17 c17, .slice (some ⟨k107, 0, none⟩) 1 1]).run Tryz.prog w29 = .ok (.value (.slice p108 l108 c108)) w30 ∧
  ((decide (n18 < (l4 : Int))) = true →
  ∃ a115 : Addr, p4 = some a115 ∧ (0 : Int) ≤ n18 ∧ n18 < (l4 : Int) ∧
  ∃ s116 : ByteArray, w30.cell? (Addr.add a115 (n18.toNat * 1)) = some (.string s116) ∧
  ((decide ((s116.size : Int) > 100)) = true →
  Calls Tryz.prog 8 #[] w30 fun e_9 w31 => ∃ b119 : Bool, e_9 = .returned (.bool b119) ∧
  R (.bool b119) w31) ∧
  ((decide ((s116.size : Int) > 100)) = false →
  ∃ D : World → Prop, D w30.drew ∧
  ∃ (p121 : Option Addr) (l121 c121 : Nat), (∀ w, D w → w.cell? ⟨k12, 3, none⟩ = some (.slice p121 l121 c121)) ∧
  ∃ a123 : Addr, p121 = some a123 ∧ (0 : Int) ≤ Int.tmod (IntKind.i64.wrap n3) n61 ∧ (Int.tmod (IntKind.i64.wrap n3) n61) < (l121 : Int) ∧
  ∃ p124 : Option Addr, (∀ w, D w → w.cell? (Addr.add a123 ((Int.tmod (IntKind.i64.wrap n3) n61).toNat * 1)) = some (.pointer p124)) ∧
  ∃ a129 : Addr, p4 = some a129 ∧ (0 : Int) ≤ n18 ∧ n18 < (l4 : Int) ∧
  ∃ s130 : ByteArray, (∀ w, D w → w.cell? (Addr.add a129 (n18.toNat * 1)) = some (.string s130)) ∧
  Calls Tryz.prog 14 #[.string s130] w30.drew fun e_10 w32 => ∃ s131 : ByteArray, e_10 = .returned (.string s131) ∧
  D w32 ∧
  Calls Tryz.prog 13 #[.pointer p124, .int .i64 (IntKind.i64.wrap (4 + n18)), .string s131] w32 fun e_11 w33 => ∃ n132 : Int, e_11 = .returned (.int .i64 n132) ∧
  D w33 ∧
  ((n132 != 0) = true →
  R (.bool false) w33) ∧
  ((n132 != 0) = false →
  ∃ a136 : Addr, p4 = some a136 ∧ (0 : Int) ≤ n18 ∧ n18 < (l4 : Int) ∧
  ∃ s137 : ByteArray, w33.cell? (Addr.add a136 (n18.toNat * 1)) = some (.string s137) ∧
  Calls Tryz.prog 14 #[.string s137] w33 fun e_12 w34 => ∃ s138 : ByteArray, e_12 = .returned (.string s138) ∧
  ((!(s138.toList == s100_0.toList)) = true →
  K [.int .i64 (IntKind.i64.wrap (n16 + 1)), .slice p108 l108 c108, .int .i64 (IntKind.i64.wrap (n18 + 1))] w34) ∧
  ((!(s138.toList == s100_0.toList)) = false →
  K [.int .i64 n16, .slice p108 l108 c108, .int .i64 (IntKind.i64.wrap (n18 + 1))] w34)))) ∧
  ((decide (n18 < (l4 : Int))) = false →
  K [.int .i64 n16, .slice p108 l108 c108, .int .i64 (IntKind.i64.wrap (n18 + 1))] w30))))) ∧
  ((decide (n18 < n66)) = false →
  ∃ n144_0 : Int, ∃ n144_1 : Int, ∃ n144_2 : Int, ∃ (p144_3 : Option Addr) (l144_3 c144_3 : Nat), ∃ (p144_4 : Option Addr) (l144_4 c144_4 : Nat), (w24.cell? ⟨k12, 0, none⟩ = some (.int .i64 n144_0) ∧ w24.cell? ⟨k12, 1, none⟩ = some (.int .i64 n144_1) ∧ w24.cell? ⟨k12, 2, none⟩ = some (.int .i64 n144_2) ∧ w24.cell? ⟨k12, 3, none⟩ = some (.slice p144_3 l144_3 c144_3) ∧ w24.cell? ⟨k12, 4, none⟩ = some (.slice p144_4 l144_4 c144_4)) ∧
  Calls Tryz.prog 15 #[.agg #[.int .i64 n144_0, .int .i64 n144_1, .int .i64 n144_2, .slice p144_3 l144_3 c144_3, .slice p144_4 l144_4 c144_4], .int .i64 0] w24 fun e_13 w35 => ∃ n145_0 : Int, ∃ n145_1 : Int, e_13 = .returned (.tuple #[.int .i64 n145_0, .int .i64 n145_1]) ∧
  ∃ n149_0 : Int, ∃ n149_1 : Int, ∃ n149_2 : Int, ∃ (p149_3 : Option Addr) (l149_3 c149_3 : Nat), ∃ (p149_4 : Option Addr) (l149_4 c149_4 : Nat), (w35.cell? ⟨k12, 0, none⟩ = some (.int .i64 n149_0) ∧ w35.cell? ⟨k12, 1, none⟩ = some (.int .i64 n149_1) ∧ w35.cell? ⟨k12, 2, none⟩ = some (.int .i64 n149_2) ∧ w35.cell? ⟨k12, 3, none⟩ = some (.slice p149_3 l149_3 c149_3) ∧ w35.cell? ⟨k12, 4, none⟩ = some (.slice p149_4 l149_4 c149_4)) ∧
  Calls Tryz.prog 16 #[.agg #[.int .i64 n149_0, .int .i64 n149_1, .int .i64 n149_2, .slice p149_3 l149_3 c149_3, .slice p149_4 l149_4 c149_4], .int .i64 0] w35 fun e_14 w36 => ∃ n150_0 : Int, ∃ n150_1 : Int, ∃ n150_2 : Int, e_14 = .returned (.tuple #[.int .i64 n150_0, .int .i64 n150_1, .int .i64 n150_2]) ∧
  ∃ n155_0 : Int, ∃ n155_1 : Int, ∃ n155_2 : Int, ∃ (p155_3 : Option Addr) (l155_3 c155_3 : Nat), ∃ (p155_4 : Option Addr) (l155_4 c155_4 : Nat), (w36.cell? ⟨k12, 0, none⟩ = some (.int .i64 n155_0) ∧ w36.cell? ⟨k12, 1, none⟩ = some (.int .i64 n155_1) ∧ w36.cell? ⟨k12, 2, none⟩ = some (.int .i64 n155_2) ∧ w36.cell? ⟨k12, 3, none⟩ = some (.slice p155_3 l155_3 c155_3) ∧ w36.cell? ⟨k12, 4, none⟩ = some (.slice p155_4 l155_4 c155_4)) ∧
  Calls Tryz.prog 15 #[.agg #[.int .i64 n155_0, .int .i64 n155_1, .int .i64 n155_2, .slice p155_3 l155_3 c155_3, .slice p155_4 l155_4 c155_4], .int .i64 0] w36 fun e_15 w37 => ∃ n156_0 : Int, ∃ n156_1 : Int, e_15 = .returned (.tuple #[.int .i64 n156_0, .int .i64 n156_1]) ∧
  LoopP (fun I_2 => I_2 [.int .i64 0] w37) fun K_2 vs_2 w38 => ∃ n31 : Int, vs_2 = [.int .i64 n31] ∧
  ∃ n161 : Int, w38.cell? ⟨k11, 1, none⟩ = some (.int .i64 n161) ∧
  ((decide (n31 < n161)) = true →
  ∃ (p167 : Option Addr) (l167 c167 : Nat), w38.cell? ⟨k12, 3, none⟩ = some (.slice p167 l167 c167) ∧
  ∃ a169 : Addr, p167 = some a169 ∧ (0 : Int) ≤ Int.tmod (IntKind.i64.wrap n3) n61 ∧ (Int.tmod (IntKind.i64.wrap n3) n61) < (l167 : Int) ∧
  ∃ p170 : Option Addr, w38.cell? (Addr.add a169 ((Int.tmod (IntKind.i64.wrap n3) n61).toNat * 1)) = some (.pointer p170) ∧
  Calls Tryz.prog 12 #[.pointer p170, .int .i64 (IntKind.i64.wrap (4 + n31))] w38 fun e_16 w39 => ∃ s173_0 : ByteArray, ∃ n173_1 : Int, e_16 = .returned (.tuple #[.string s173_0, .int .i64 n173_1]) ∧
  ∃ a179 : Addr, p17 = some a179 ∧ (0 : Int) ≤ n31 ∧ n31 < (l17 : Int) ∧
  ∃ s180 : ByteArray, w39.cell? (Addr.add a179 (n31.toNat * 1)) = some (.string s180) ∧
  ((!(s173_0.toList == s180.toList)) = true →
  R (.bool false) w39) ∧
  ((!(s173_0.toList == s180.toList)) = false →
  K_2 [.int .i64 (IntKind.i64.wrap (n31 + 1))] w39)) ∧
  ((decide (n31 < n161)) = false →
  ((n145_0 == n16) = true →
  ((n145_1 == 0) = true →
  ((n150_0 == n16) = true →
  ((n150_1 == 0) = true →
  ((n150_2 == 0) = true →
  ((n156_0 == 0) = true →
  R (.bool (n156_1 == 0)) w38) ∧
  ((n156_0 == 0) = false →
  R (.bool false) w38)) ∧
  ((n150_2 == 0) = false →
  R (.bool false) w38)) ∧
  ((n150_1 == 0) = false →
  R (.bool false) w38)) ∧
  ((n150_0 == n16) = false →
  R (.bool false) w38)) ∧
  ((n145_1 == 0) = false →
  R (.bool false) w38)) ∧
  ((n145_0 == n16) = false →
  R (.bool false) w38)))))))
theorem revetmentlaw19_MendRepairs_eq (n0 : Int) (n1 : Int) (p2 : Option Addr) (l2 c2 : Nat) (n3 : Int) (p4 : Option Addr) (l4 c4 : Nat) (w : World) (R : Value → World → Prop) : revetmentlaw19_MendRepairs n0 n1 p2 l2 c2 n3 p4 l4 c4 w R = fnP Tryz.prog Tryz.f3 (.s .o (.s .o (.s .o (.s .o (.s .o (.s .o (.s .o (.s .o (.s (.s .o (.b (.l [(16, .one (.int .i64)), (17, .one .slice), (18, .one (.int .i64))] (.s .o (.s (.b (.s (.s .o (.b (.l [(19, .one (.int .i64))] .o))) .o)) .o))))) (.s .o (.s .o (.s .o (.s (.s .o (.b (.l [(31, .one (.int .i64))] .o))) .o))))))))))))) [.int .u8 n0, .int .u8 n1, .slice p2 l2 c2, .int .u8 n3, .slice p4 l4 c4] w R := by kernel_rfl
theorem revetmentlaw19_MendRepairs_calls {n0 : Int} {n1 : Int} {p2 : Option Addr} {l2 c2 : Nat} {n3 : Int} {p4 : Option Addr} {l4 c4 : Nat} {w : World} {R : Value → World → Prop} (h : revetmentlaw19_MendRepairs n0 n1 p2 l2 c2 n3 p4 l4 c4 w R) : Calls Tryz.prog 3 #[.int .u8 n0, .int .u8 n1, .slice p2 l2 c2, .int .u8 n3, .slice p4 l4 c4] w fun e w1 => ∃ v, e = .returned v ∧ R v w1 := fnP_calls callable Tryz.func3 (revetmentlaw19_MendRepairs_eq n0 n1 p2 l2 c2 n3 p4 l4 c4 w R ▸ h)

end Go.Proofs.YtedbbdeeofdepaaGreatDoor
