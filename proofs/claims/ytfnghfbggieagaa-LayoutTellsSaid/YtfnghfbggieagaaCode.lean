import Derived.Test.YtfnghfbggieagaaBase
/-! The formulas of Go functions, printed by a program of this session (shprint.py), each tied to the loaded function by the kernel. -/
namespace Go.Proofs.Ytfnghfbggieagaa
open Go.Sh
set_option linter.unusedVariables false
set_option maxRecDepth 100000
/-- revetment/revetmentlaw07.LayoutTurns -/
def revetmentlaw07_LayoutTurns (n0 : Int) (n1 : Int) (n2 : Int) (n3 : Int) (w : World) (R : Value → World → Prop) : Prop :=
  Calls Try.prog 9 #[.int .u8 n0, .int .u8 n1, .int .u8 255] w fun e w1 => ∃ n20_0 : Int, ∃ n20_1 : Int, ∃ n20_2 : Int, e = .returned (.agg #[.int .i64 n20_0, .int .i64 n20_1, .int .i64 n20_2]) ∧
  Alloc #[.int .i64 0, .int .i64 0, .int .i64 0] 23 w1 fun k9 w2 =>
  St ⟨k9, 0, none⟩ (.int .i64 n20_0) w2 fun w3 =>
  St ⟨k9, 1, none⟩ (.int .i64 n20_1) w3 fun w4 =>
  St ⟨k9, 2, none⟩ (.int .i64 n20_2) w4 fun w5 =>
  ∃ n24 : Int, w5.cell? ⟨k9, 2, none⟩ = some (.int .i64 n24) ∧
  ∃ n26 : Int, w5.cell? ⟨k9, 0, none⟩ = some (.int .i64 n26) ∧
  (IntKind.i64.wrap (n24 - n26)) ≠ 0 ∧
  ∃ n32 : Int, w5.cell? ⟨k9, 0, none⟩ = some (.int .i64 n32) ∧
  (IntKind.i64.wrap (n32 - 2)) ≠ 0 ∧
  ∃ n36_0 : Int, ∃ n36_1 : Int, ∃ n36_2 : Int, (w5.cell? ⟨k9, 0, none⟩ = some (.int .i64 n36_0) ∧ w5.cell? ⟨k9, 1, none⟩ = some (.int .i64 n36_1) ∧ w5.cell? ⟨k9, 2, none⟩ = some (.int .i64 n36_2)) ∧
  Calls Try.prog 10 #[.agg #[.int .i64 n36_0, .int .i64 n36_1, .int .i64 n36_2], .int .i64 (Int.tmod (IntKind.i64.wrap n2) (IntKind.i64.wrap (n24 - n26)))] w5 fun e_1 w6 => ∃ n38_0 : Int, ∃ n38_1 : Int, e_1 = .returned (.tuple #[.int .i64 n38_0, .int .i64 n38_1]) ∧
  ∃ n42_0 : Int, ∃ n42_1 : Int, ∃ n42_2 : Int, (w6.cell? ⟨k9, 0, none⟩ = some (.int .i64 n42_0) ∧ w6.cell? ⟨k9, 1, none⟩ = some (.int .i64 n42_1) ∧ w6.cell? ⟨k9, 2, none⟩ = some (.int .i64 n42_2)) ∧
  ∃ n45 : Int, w6.cell? ⟨k9, 0, none⟩ = some (.int .i64 n45) ∧
  Calls Try.prog 10 #[.agg #[.int .i64 n42_0, .int .i64 n42_1, .int .i64 n42_2], .int .i64 (IntKind.i64.wrap ((Int.tmod (IntKind.i64.wrap n2) (IntKind.i64.wrap (n24 - n26))) + n45))] w6 fun e_2 w7 => ∃ n47_0 : Int, ∃ n47_1 : Int, e_2 = .returned (.tuple #[.int .i64 n47_0, .int .i64 n47_1]) ∧
  ∃ n51_0 : Int, ∃ n51_1 : Int, ∃ n51_2 : Int, (w7.cell? ⟨k9, 0, none⟩ = some (.int .i64 n51_0) ∧ w7.cell? ⟨k9, 1, none⟩ = some (.int .i64 n51_1) ∧ w7.cell? ⟨k9, 2, none⟩ = some (.int .i64 n51_2)) ∧
  Calls Try.prog 10 #[.agg #[.int .i64 n51_0, .int .i64 n51_1, .int .i64 n51_2], .int .i64 (IntKind.i64.wrap ((Int.tmod (IntKind.i64.wrap n2) (IntKind.i64.wrap (n24 - n26))) + 1))] w7 fun e_3 w8 => ∃ n54_0 : Int, ∃ n54_1 : Int, e_3 = .returned (.tuple #[.int .i64 n54_0, .int .i64 n54_1]) ∧
  ∃ D : World → Prop, D w8.drew ∧
  ((n38_0 == n47_0) = true →
  ((n38_1 == n47_1) = true →
  ∃ n69 : Int, (∀ w, D w → w.cell? ⟨k9, 0, none⟩ = some (.int .i64 n69)) ∧
  n69 ≠ 0 ∧
  (((Int.tmod (IntKind.i64.wrap (n54_0 + 1)) n69) == n38_0) = true →
  ∃ n78 : Int, (∀ w, D w → w.cell? ⟨k9, 0, none⟩ = some (.int .i64 n78)) ∧
  n78 ≠ 0 ∧
  (((Int.tmod (IntKind.i64.wrap (n54_1 + 1)) n78) == n38_1) = true →
  ∃ n84_0 : Int, ∃ n84_1 : Int, ∃ n84_2 : Int, (∀ w, D w → w.cell? ⟨k9, 0, none⟩ = some (.int .i64 n84_0) ∧ w.cell? ⟨k9, 1, none⟩ = some (.int .i64 n84_1) ∧ w.cell? ⟨k9, 2, none⟩ = some (.int .i64 n84_2)) ∧
  Calls Try.prog 11 #[.agg #[.int .i64 n84_0, .int .i64 n84_1, .int .i64 n84_2], .int .i64 (Int.tmod (IntKind.i64.wrap n2) (IntKind.i64.wrap (n24 - n26))), .int .i64 (Int.tmod (IntKind.i64.wrap n3) (IntKind.i64.wrap (n32 - 2)))] w8.drew fun e_4 w9 => ∃ n87 : Int, e_4 = .returned (.int .i64 n87) ∧
  D w9 ∧
  ∃ n88_0 : Int, ∃ n88_1 : Int, ∃ n88_2 : Int, (∀ w, D w → w.cell? ⟨k9, 0, none⟩ = some (.int .i64 n88_0) ∧ w.cell? ⟨k9, 1, none⟩ = some (.int .i64 n88_1) ∧ w.cell? ⟨k9, 2, none⟩ = some (.int .i64 n88_2)) ∧
  ∃ n91 : Int, (∀ w, D w → w.cell? ⟨k9, 0, none⟩ = some (.int .i64 n91)) ∧
  Calls Try.prog 11 #[.agg #[.int .i64 n88_0, .int .i64 n88_1, .int .i64 n88_2], .int .i64 (IntKind.i64.wrap ((Int.tmod (IntKind.i64.wrap n2) (IntKind.i64.wrap (n24 - n26))) + n91)), .int .i64 (Int.tmod (IntKind.i64.wrap n3) (IntKind.i64.wrap (n32 - 2)))] w9 fun e_5 w10 => ∃ n94 : Int, e_5 = .returned (.int .i64 n94) ∧
  D w10 ∧
  ((n87 == n94) = true →
  ∃ n98_0 : Int, ∃ n98_1 : Int, ∃ n98_2 : Int, (∀ w, D w → w.cell? ⟨k9, 0, none⟩ = some (.int .i64 n98_0) ∧ w.cell? ⟨k9, 1, none⟩ = some (.int .i64 n98_1) ∧ w.cell? ⟨k9, 2, none⟩ = some (.int .i64 n98_2)) ∧
  Calls Try.prog 11 #[.agg #[.int .i64 n98_0, .int .i64 n98_1, .int .i64 n98_2], .int .i64 (IntKind.i64.wrap ((Int.tmod (IntKind.i64.wrap n2) (IntKind.i64.wrap (n24 - n26))) + 1)), .int .i64 (Int.tmod (IntKind.i64.wrap n3) (IntKind.i64.wrap (n32 - 2)))] w10 fun e_6 w11 => ∃ n102 : Int, e_6 = .returned (.int .i64 n102) ∧
  D w11 ∧
  ∃ n105 : Int, (∀ w, D w → w.cell? ⟨k9, 0, none⟩ = some (.int .i64 n105)) ∧
  n105 ≠ 0 ∧
  ∃ n107_0 : Int, ∃ n107_1 : Int, ∃ n107_2 : Int, (∀ w, D w → w.cell? ⟨k9, 0, none⟩ = some (.int .i64 n107_0) ∧ w.cell? ⟨k9, 1, none⟩ = some (.int .i64 n107_1) ∧ w.cell? ⟨k9, 2, none⟩ = some (.int .i64 n107_2)) ∧
  Calls Try.prog 11 #[.agg #[.int .i64 n107_0, .int .i64 n107_1, .int .i64 n107_2], .int .i64 (Int.tmod (IntKind.i64.wrap n2) (IntKind.i64.wrap (n24 - n26))), .int .i64 (Int.tmod (IntKind.i64.wrap n3) (IntKind.i64.wrap (n32 - 2)))] w11 fun e_7 w12 => ∃ n110 : Int, e_7 = .returned (.int .i64 n110) ∧
  D w12 ∧
  (((Int.tmod (IntKind.i64.wrap (n102 + 1)) n105) == n110) = true →
  Calls Try.prog 12 #[] w12 fun e_8 w13 => ∃ b114 : Bool, e_8 = .returned (.bool b114) ∧
  D w13 ∧
  R (.bool b114) w13) ∧
  (((Int.tmod (IntKind.i64.wrap (n102 + 1)) n105) == n110) = false →
  R (.bool false) w12)) ∧
  ((n87 == n94) = false →
  R (.bool false) w10)) ∧
  (((Int.tmod (IntKind.i64.wrap (n54_1 + 1)) n78) == n38_1) = false →
  R (.bool false) w8.drew)) ∧
  (((Int.tmod (IntKind.i64.wrap (n54_0 + 1)) n69) == n38_0) = false →
  R (.bool false) w8.drew)) ∧
  ((n38_1 == n47_1) = false →
  R (.bool false) w8.drew)) ∧
  ((n38_0 == n47_0) = false →
  R (.bool false) w8.drew)
theorem revetmentlaw07_LayoutTurns_eq (n0 : Int) (n1 : Int) (n2 : Int) (n3 : Int) (w : World) (R : Value → World → Prop) : revetmentlaw07_LayoutTurns n0 n1 n2 n3 w R = fnP Try.prog Try.f3 .o [.int .u8 n0, .int .u8 n1, .int .u8 n2, .int .u8 n3] w R := by kernel_rfl
theorem revetmentlaw07_LayoutTurns_calls {n0 : Int} {n1 : Int} {n2 : Int} {n3 : Int} {w : World} {R : Value → World → Prop} (h : revetmentlaw07_LayoutTurns n0 n1 n2 n3 w R) : Calls Try.prog 3 #[.int .u8 n0, .int .u8 n1, .int .u8 n2, .int .u8 n3] w fun e w1 => ∃ v, e = .returned v ∧ R v w1 := fnP_calls callable Try.func3 (revetmentlaw07_LayoutTurns_eq n0 n1 n2 n3 w R ▸ h)

/-- revetment/revetmentlaw07.LayoutRoles -/
def revetmentlaw07_LayoutRoles (n0 : Int) (n1 : Int) (n2 : Int) (w : World) (R : Value → World → Prop) : Prop :=
  Calls Try.prog 9 #[.int .u8 n0, .int .u8 n1, .int .u8 255] w fun e w1 => ∃ n19_0 : Int, ∃ n19_1 : Int, ∃ n19_2 : Int, e = .returned (.agg #[.int .i64 n19_0, .int .i64 n19_1, .int .i64 n19_2]) ∧
  Alloc #[.int .i64 0, .int .i64 0, .int .i64 0] 23 w1 fun k7 w2 =>
  St ⟨k7, 0, none⟩ (.int .i64 n19_0) w2 fun w3 =>
  St ⟨k7, 1, none⟩ (.int .i64 n19_1) w3 fun w4 =>
  St ⟨k7, 2, none⟩ (.int .i64 n19_2) w4 fun w5 =>
  ∃ n23 : Int, w5.cell? ⟨k7, 2, none⟩ = some (.int .i64 n23) ∧
  ∃ n25 : Int, w5.cell? ⟨k7, 0, none⟩ = some (.int .i64 n25) ∧
  (IntKind.i64.wrap (n23 - n25)) ≠ 0 ∧
  Alloc #[.bool false, .bool false, .bool false, .bool false, .bool false, .bool false, .bool false, .bool false, .bool false, .bool false] 30 w5 fun k9 w6 =>
  St ⟨k9, 0, none⟩ (.bool false) w6 fun w7 =>
  St ⟨k9, 1, none⟩ (.bool false) w7 fun w8 =>
  St ⟨k9, 2, none⟩ (.bool false) w8 fun w9 =>
  St ⟨k9, 3, none⟩ (.bool false) w9 fun w10 =>
  St ⟨k9, 4, none⟩ (.bool false) w10 fun w11 =>
  St ⟨k9, 5, none⟩ (.bool false) w11 fun w12 =>
  St ⟨k9, 6, none⟩ (.bool false) w12 fun w13 =>
  St ⟨k9, 7, none⟩ (.bool false) w13 fun w14 =>
  St ⟨k9, 8, none⟩ (.bool false) w14 fun w15 =>
  St ⟨k9, 9, none⟩ (.bool false) w15 fun w16 =>
  ∃ n30_0 : Int, ∃ n30_1 : Int, ∃ n30_2 : Int, (w16.cell? ⟨k7, 0, none⟩ = some (.int .i64 n30_0) ∧ w16.cell? ⟨k7, 1, none⟩ = some (.int .i64 n30_1) ∧ w16.cell? ⟨k7, 2, none⟩ = some (.int .i64 n30_2)) ∧
  Calls Try.prog 10 #[.agg #[.int .i64 n30_0, .int .i64 n30_1, .int .i64 n30_2], .int .i64 (Int.tmod (IntKind.i64.wrap n2) (IntKind.i64.wrap (n23 - n25)))] w16 fun e_1 w17 => ∃ n32_0 : Int, ∃ n32_1 : Int, e_1 = .returned (.tuple #[.int .i64 n32_0, .int .i64 n32_1]) ∧
  LoopP (fun I => I [.int .i64 0] w17) fun K vs w18 => ∃ n12 : Int, vs = [.int .i64 n12] ∧
  ∃ n37 : Int, w18.cell? ⟨k7, 0, none⟩ = some (.int .i64 n37) ∧
  ((decide (n12 < n37)) = true →
  ∃ n41_0 : Int, ∃ n41_1 : Int, ∃ n41_2 : Int, (w18.cell? ⟨k7, 0, none⟩ = some (.int .i64 n41_0) ∧ w18.cell? ⟨k7, 1, none⟩ = some (.int .i64 n41_1) ∧ w18.cell? ⟨k7, 2, none⟩ = some (.int .i64 n41_2)) ∧
  Calls Try.prog 13 #[.agg #[.int .i64 n41_0, .int .i64 n41_1, .int .i64 n41_2], .int .i64 (Int.tmod (IntKind.i64.wrap n2) (IntKind.i64.wrap (n23 - n25))), .int .i64 n12] w18 fun e_2 w19 => ∃ n44 : Int, e_2 = .returned (.int .i64 n44) ∧
  Join (fun vs_1 w20 => vs_1 = [] ∧
  (0 : Int) ≤ n44 ∧ n44 < (10 : Int) ∧
  St (Addr.add ⟨k9, 0, none⟩ (n44.toNat * 1)) (.bool true) w20 fun w21 =>
  Alloc #[.bool false, .bool false, .bool false, .bool false, .bool false, .bool false, .bool false, .bool false, .bool false, .bool false] 30 w21 fun k14 w22 =>
  St ⟨k14, 0, none⟩ (.bool false) w22 fun w23 =>
  St ⟨k14, 1, none⟩ (.bool false) w23 fun w24 =>
  St ⟨k14, 2, none⟩ (.bool false) w24 fun w25 =>
  St ⟨k14, 3, none⟩ (.bool false) w25 fun w26 =>
  St ⟨k14, 4, none⟩ (.bool false) w26 fun w27 =>
  St ⟨k14, 5, none⟩ (.bool false) w27 fun w28 =>
  St ⟨k14, 6, none⟩ (.bool false) w28 fun w29 =>
  St ⟨k14, 7, none⟩ (.bool false) w29 fun w30 =>
  St ⟨k14, 8, none⟩ (.bool false) w30 fun w31 =>
  St ⟨k14, 9, none⟩ (.bool false) w31 fun w32 =>
  LoopP (fun I_1 => I_1 [.int .i64 0] w32) fun K_1 vs_2 w33 => ∃ n15 : Int, vs_2 = [.int .i64 n15] ∧
  ∃ n100 : Int, w33.cell? ⟨k7, 0, none⟩ = some (.int .i64 n100) ∧
  ((decide (n15 < n100)) = true →
  ∃ n104_0 : Int, ∃ n104_1 : Int, ∃ n104_2 : Int, (w33.cell? ⟨k7, 0, none⟩ = some (.int .i64 n104_0) ∧ w33.cell? ⟨k7, 1, none⟩ = some (.int .i64 n104_1) ∧ w33.cell? ⟨k7, 2, none⟩ = some (.int .i64 n104_2)) ∧
  Calls Try.prog 13 #[.agg #[.int .i64 n104_0, .int .i64 n104_1, .int .i64 n104_2], .int .i64 (IntKind.i64.wrap ((Int.tmod (IntKind.i64.wrap n2) (IntKind.i64.wrap (n23 - n25))) + n15)), .int .i64 n12] w33 fun e_3 w34 => ∃ n109 : Int, e_3 = .returned (.int .i64 n109) ∧
  ((decide (n109 < 0)) = true →
  R (.bool false) w34) ∧
  ((decide (n109 < 0)) = false →
  ∃ n115 : Int, w34.cell? ⟨k7, 0, none⟩ = some (.int .i64 n115) ∧
  ((decide (n109 ≥ n115)) = true →
  R (.bool false) w34) ∧
  ((decide (n109 ≥ n115)) = false →
  (0 : Int) ≤ n109 ∧ n109 < (10 : Int) ∧
  ∃ b121 : Bool, w34.cell? (Addr.add ⟨k14, 0, none⟩ (n109.toNat * 1)) = some (.bool b121) ∧
  (b121 = true →
  R (.bool false) w34) ∧
  (b121 = false →
  (0 : Int) ≤ n109 ∧ n109 < (10 : Int) ∧
  St (Addr.add ⟨k14, 0, none⟩ (n109.toNat * 1)) (.bool true) w34 fun w35 =>
  K_1 [.int .i64 (IntKind.i64.wrap (n15 + 1))] w35)))) ∧
  ((decide (n15 < n100)) = false →
  K [.int .i64 (IntKind.i64.wrap (n12 + 1))] w33)) fun J =>
  ((decide (n44 < 0)) = true →
  R (.bool false) w19) ∧
  ((decide (n44 < 0)) = false →
  ∃ n50 : Int, w19.cell? ⟨k7, 0, none⟩ = some (.int .i64 n50) ∧
  ((decide (n44 ≥ n50)) = true →
  R (.bool false) w19) ∧
  ((decide (n44 ≥ n50)) = false →
  (0 : Int) ≤ n44 ∧ n44 < (10 : Int) ∧
  ∃ b56 : Bool, w19.cell? (Addr.add ⟨k9, 0, none⟩ (n44.toNat * 1)) = some (.bool b56) ∧
  (b56 = true →
  R (.bool false) w19) ∧
  (b56 = false →
  ∃ n61 : Int, w19.cell? ⟨k7, 0, none⟩ = some (.int .i64 n61) ∧
  ((!((n44 == (IntKind.i64.wrap (n61 - 2))) == (n12 == n32_0))) = true →
  R (.bool false) w19) ∧
  ((!((n44 == (IntKind.i64.wrap (n61 - 2))) == (n12 == n32_0))) = false →
  ∃ n72 : Int, w19.cell? ⟨k7, 0, none⟩ = some (.int .i64 n72) ∧
  ((!((n44 == (IntKind.i64.wrap (n72 - 1))) == (n12 == n32_1))) = true →
  R (.bool false) w19) ∧
  ((!((n44 == (IntKind.i64.wrap (n72 - 1))) == (n12 == n32_1))) = false →
  ∃ n83 : Int, w19.cell? ⟨k7, 0, none⟩ = some (.int .i64 n83) ∧
  ((decide (n44 < (IntKind.i64.wrap (n83 - 2)))) = true →
  ∃ n87_0 : Int, ∃ n87_1 : Int, ∃ n87_2 : Int, (w19.cell? ⟨k7, 0, none⟩ = some (.int .i64 n87_0) ∧ w19.cell? ⟨k7, 1, none⟩ = some (.int .i64 n87_1) ∧ w19.cell? ⟨k7, 2, none⟩ = some (.int .i64 n87_2)) ∧
  Calls Try.prog 11 #[.agg #[.int .i64 n87_0, .int .i64 n87_1, .int .i64 n87_2], .int .i64 (Int.tmod (IntKind.i64.wrap n2) (IntKind.i64.wrap (n23 - n25))), .int .i64 n44] w19 fun e_4 w36 => ∃ n90 : Int, e_4 = .returned (.int .i64 n90) ∧
  ((n90 != n12) = true →
  R (.bool false) w36) ∧
  ((n90 != n12) = false →
  J [] w36)) ∧
  ((decide (n44 < (IntKind.i64.wrap (n83 - 2)))) = false →
  J [] w19))))))) ∧
  ((decide (n12 < n37)) = false →
  Calls Try.prog 12 #[] w18 fun e_5 w37 => ∃ b125 : Bool, e_5 = .returned (.bool b125) ∧
  R (.bool b125) w37)
theorem revetmentlaw07_LayoutRoles_eq (n0 : Int) (n1 : Int) (n2 : Int) (w : World) (R : Value → World → Prop) : revetmentlaw07_LayoutRoles n0 n1 n2 w R = fnP Try.prog Try.f4 (.s .o (.s .o (.s .o (.s .o (.s .o (.s (.s .o (.b (.l [(12, .one (.int .i64))] (.s .o (.s (.b (.s .o (.j [] .o (.s .o (.s .o (.s .o (.b (.l [(15, .one (.int .i64))] .o)))))))) .o))))) .o)))))) [.int .u8 n0, .int .u8 n1, .int .u8 n2] w R := by kernel_rfl
theorem revetmentlaw07_LayoutRoles_calls {n0 : Int} {n1 : Int} {n2 : Int} {w : World} {R : Value → World → Prop} (h : revetmentlaw07_LayoutRoles n0 n1 n2 w R) : Calls Try.prog 4 #[.int .u8 n0, .int .u8 n1, .int .u8 n2] w fun e w1 => ∃ v, e = .returned v ∧ R v w1 := fnP_calls callable Try.func4 (revetmentlaw07_LayoutRoles_eq n0 n1 n2 w R ▸ h)

/-- revetment/revetmentlaw07.LayoutNeeds -/
def revetmentlaw07_LayoutNeeds (n0 : Int) (n1 : Int) (n2 : Int) (n3 : Int) (n4 : Int) (n5 : Int) (w : World) (R : Value → World → Prop) : Prop :=
  Calls Try.prog 9 #[.int .u8 n0, .int .u8 n1, .int .u8 n2] w fun e w1 => ∃ n22_0 : Int, ∃ n22_1 : Int, ∃ n22_2 : Int, e = .returned (.agg #[.int .i64 n22_0, .int .i64 n22_1, .int .i64 n22_2]) ∧
  Alloc #[.int .i64 0, .int .i64 0, .int .i64 0] 23 w1 fun k13 w2 =>
  St ⟨k13, 0, none⟩ (.int .i64 n22_0) w2 fun w3 =>
  St ⟨k13, 1, none⟩ (.int .i64 n22_1) w3 fun w4 =>
  St ⟨k13, 2, none⟩ (.int .i64 n22_2) w4 fun w5 =>
  ∃ n23_0 : Int, ∃ n23_1 : Int, ∃ n23_2 : Int, (w5.cell? ⟨k13, 0, none⟩ = some (.int .i64 n23_0) ∧ w5.cell? ⟨k13, 1, none⟩ = some (.int .i64 n23_1) ∧ w5.cell? ⟨k13, 2, none⟩ = some (.int .i64 n23_2)) ∧
  Calls Try.prog 14 #[.agg #[.int .i64 n23_0, .int .i64 n23_1, .int .i64 n23_2]] w5 fun e_1 w6 => ∃ n24 : Int, e_1 = .returned (.int .i64 n24) ∧
  ∃ n28 : Int, w6.cell? ⟨k13, 2, none⟩ = some (.int .i64 n28) ∧
  n28 ≠ 0 ∧
  ∃ n33 : Int, w6.cell? ⟨k13, 1, none⟩ = some (.int .i64 n33) ∧
  n33 ≠ 0 ∧
  ∃ n35_0 : Int, ∃ n35_1 : Int, ∃ n35_2 : Int, (w6.cell? ⟨k13, 0, none⟩ = some (.int .i64 n35_0) ∧ w6.cell? ⟨k13, 1, none⟩ = some (.int .i64 n35_1) ∧ w6.cell? ⟨k13, 2, none⟩ = some (.int .i64 n35_2)) ∧
  Calls Try.prog 15 #[.agg #[.int .i64 n35_0, .int .i64 n35_1, .int .i64 n35_2], .int .i64 (Int.tmod (IntKind.i64.wrap n3) n28), .int .i64 (Int.tmod (IntKind.i64.wrap n4) n33)] w6 fun e_2 w7 => ∃ n38 : Int, e_2 = .returned (.int .i64 n38) ∧
  ∃ n44 : Int, w7.cell? ⟨k13, 1, none⟩ = some (.int .i64 n44) ∧
  Calls Try.prog 16 #[.int .i64 (IntKind.i64.wrap (n24 + (IntKind.i64.wrap n5))), .int .i64 n44] w7 fun e_3 w8 => ∃ n45 : Int, e_3 = .returned (.int .i64 n45) ∧
  ∃ D : World → Prop, D w8.drew ∧
  ((decide (n38 ≥ 4)) = true →
  ((decide (n38 < n24)) = true →
  ∃ n57 : Int, (∀ w, D w → w.cell? ⟨k13, 1, none⟩ = some (.int .i64 n57)) ∧
  n57 ≠ 0 ∧
  (((IntKind.i64.wrap (Int.tdiv (IntKind.i64.wrap (n38 - 4)) n57)) == (Int.tmod (IntKind.i64.wrap n3) n28)) = true →
  ∃ n66 : Int, (∀ w, D w → w.cell? ⟨k13, 1, none⟩ = some (.int .i64 n66)) ∧
  n66 ≠ 0 ∧
  (((Int.tmod (IntKind.i64.wrap (n38 - 4)) n66) == (Int.tmod (IntKind.i64.wrap n4) n33)) = true →
  ∃ n74 : Int, (∀ w, D w → w.cell? ⟨k13, 2, none⟩ = some (.int .i64 n74)) ∧
  ((decide (n45 ≥ n74)) = true →
  ((decide (n45 ≤ 256)) = true →
  ∃ n84 : Int, (∀ w, D w → w.cell? ⟨k13, 1, none⟩ = some (.int .i64 n84)) ∧
  Calls Try.prog 16 #[.int .i64 n24, .int .i64 n84] w8.drew fun e_4 w9 => ∃ n85 : Int, e_4 = .returned (.int .i64 n85) ∧
  D w9 ∧
  ∃ n87 : Int, (∀ w, D w → w.cell? ⟨k13, 2, none⟩ = some (.int .i64 n87)) ∧
  ((n85 == n87) = true →
  ∃ n94 : Int, (∀ w, D w → w.cell? ⟨k13, 1, none⟩ = some (.int .i64 n94)) ∧
  Calls Try.prog 16 #[.int .i64 (IntKind.i64.wrap (n24 - 1)), .int .i64 n94] w9 fun e_5 w10 => ∃ n95 : Int, e_5 = .returned (.int .i64 n95) ∧
  D w10 ∧
  ∃ n97 : Int, (∀ w, D w → w.cell? ⟨k13, 2, none⟩ = some (.int .i64 n97)) ∧
  ((n95 == (IntKind.i64.wrap (n97 - 1))) = true →
  Calls Try.prog 12 #[] w10 fun e_6 w11 => ∃ b102 : Bool, e_6 = .returned (.bool b102) ∧
  D w11 ∧
  R (.bool b102) w11) ∧
  ((n95 == (IntKind.i64.wrap (n97 - 1))) = false →
  R (.bool false) w10)) ∧
  ((n85 == n87) = false →
  R (.bool false) w9)) ∧
  ((decide (n45 ≤ 256)) = false →
  R (.bool false) w8.drew)) ∧
  ((decide (n45 ≥ n74)) = false →
  R (.bool false) w8.drew)) ∧
  (((Int.tmod (IntKind.i64.wrap (n38 - 4)) n66) == (Int.tmod (IntKind.i64.wrap n4) n33)) = false →
  R (.bool false) w8.drew)) ∧
  (((IntKind.i64.wrap (Int.tdiv (IntKind.i64.wrap (n38 - 4)) n57)) == (Int.tmod (IntKind.i64.wrap n3) n28)) = false →
  R (.bool false) w8.drew)) ∧
  ((decide (n38 < n24)) = false →
  R (.bool false) w8.drew)) ∧
  ((decide (n38 ≥ 4)) = false →
  R (.bool false) w8.drew)
theorem revetmentlaw07_LayoutNeeds_eq (n0 : Int) (n1 : Int) (n2 : Int) (n3 : Int) (n4 : Int) (n5 : Int) (w : World) (R : Value → World → Prop) : revetmentlaw07_LayoutNeeds n0 n1 n2 n3 n4 n5 w R = fnP Try.prog Try.f5 .o [.int .u8 n0, .int .u8 n1, .int .u8 n2, .int .u8 n3, .int .u8 n4, .int .u16 n5] w R := by kernel_rfl
theorem revetmentlaw07_LayoutNeeds_calls {n0 : Int} {n1 : Int} {n2 : Int} {n3 : Int} {n4 : Int} {n5 : Int} {w : World} {R : Value → World → Prop} (h : revetmentlaw07_LayoutNeeds n0 n1 n2 n3 n4 n5 w R) : Calls Try.prog 5 #[.int .u8 n0, .int .u8 n1, .int .u8 n2, .int .u8 n3, .int .u8 n4, .int .u16 n5] w fun e w1 => ∃ v, e = .returned v ∧ R v w1 := fnP_calls callable Try.func5 (revetmentlaw07_LayoutNeeds_eq n0 n1 n2 n3 n4 n5 w R ▸ h)

/-- revetment/revetmentlaw07.LayoutBack -/
def revetmentlaw07_LayoutBack (n0 : Int) (n1 : Int) (n2 : Int) (n3 : Int) (w : World) (R : Value → World → Prop) : Prop :=
  Calls Try.prog 9 #[.int .u8 n0, .int .u8 n1, .int .u8 n2] w fun e w1 => ∃ n25_0 : Int, ∃ n25_1 : Int, ∃ n25_2 : Int, e = .returned (.agg #[.int .i64 n25_0, .int .i64 n25_1, .int .i64 n25_2]) ∧
  Alloc #[.int .i64 0, .int .i64 0, .int .i64 0] 23 w1 fun k9 w2 =>
  St ⟨k9, 0, none⟩ (.int .i64 n25_0) w2 fun w3 =>
  St ⟨k9, 1, none⟩ (.int .i64 n25_1) w3 fun w4 =>
  St ⟨k9, 2, none⟩ (.int .i64 n25_2) w4 fun w5 =>
  ∃ n26_0 : Int, ∃ n26_1 : Int, ∃ n26_2 : Int, (w5.cell? ⟨k9, 0, none⟩ = some (.int .i64 n26_0) ∧ w5.cell? ⟨k9, 1, none⟩ = some (.int .i64 n26_1) ∧ w5.cell? ⟨k9, 2, none⟩ = some (.int .i64 n26_2)) ∧
  Calls Try.prog 17 #[.agg #[.int .i64 n26_0, .int .i64 n26_1, .int .i64 n26_2]] w5 fun e_1 w6 => ∃ n27 : Int, e_1 = .returned (.int .i64 n27) ∧
  ((decide (n27 < 1)) = true →
  R (.bool false) w6) ∧
  ((decide (n27 < 1)) = false →
  Calls Try.prog 12 #[] w6 fun e_2 w7 => ∃ b31 : Bool, e_2 = .returned (.bool b31) ∧
  ((!b31) = true →
  R (.bool false) w7) ∧
  ((!b31) = false →
  n27 ≠ 0 ∧
  ∃ n39_0 : Int, ∃ n39_1 : Int, ∃ n39_2 : Int, (w7.cell? ⟨k9, 0, none⟩ = some (.int .i64 n39_0) ∧ w7.cell? ⟨k9, 1, none⟩ = some (.int .i64 n39_1) ∧ w7.cell? ⟨k9, 2, none⟩ = some (.int .i64 n39_2)) ∧
  Calls Try.prog 18 #[.agg #[.int .i64 n39_0, .int .i64 n39_1, .int .i64 n39_2], .int .i64 (Int.tmod (IntKind.i64.wrap n3) n27)] w7 fun e_3 w8 => ∃ n41_0 : Int, ∃ n41_1 : Int, ∃ n41_2 : Int, ∃ n41_3 : Int, e_3 = .returned (.tuple #[.int .i64 n41_0, .int .i64 n41_1, .int .i64 n41_2, .int .i64 n41_3]) ∧
  ∃ n47_0 : Int, ∃ n47_1 : Int, ∃ n47_2 : Int, (w8.cell? ⟨k9, 0, none⟩ = some (.int .i64 n47_0) ∧ w8.cell? ⟨k9, 1, none⟩ = some (.int .i64 n47_1) ∧ w8.cell? ⟨k9, 2, none⟩ = some (.int .i64 n47_2)) ∧
  Calls Try.prog 19 #[.agg #[.int .i64 n47_0, .int .i64 n47_1, .int .i64 n47_2], .int .i64 n41_0, .int .i64 n41_1, .int .i64 n41_2] w8 fun e_4 w9 => ∃ n51_0 : Int, ∃ n51_1 : Int, e_4 = .returned (.tuple #[.int .i64 n51_0, .int .i64 n51_1]) ∧
  ((n41_3 != 0) = true →
  R (.bool false) w9) ∧
  ((n41_3 != 0) = false →
  ((n51_1 != 0) = true →
  R (.bool false) w9) ∧
  ((n51_1 != 0) = false →
  ((n51_0 != (Int.tmod (IntKind.i64.wrap n3) n27)) = true →
  R (.bool false) w9) ∧
  ((n51_0 != (Int.tmod (IntKind.i64.wrap n3) n27)) = false →
  ((decide (n41_0 < 0)) = true →
  R (.bool false) w9) ∧
  ((decide (n41_0 < 0)) = false →
  ∃ n72 : Int, w9.cell? ⟨k9, 2, none⟩ = some (.int .i64 n72) ∧
  ((decide (n41_0 ≥ n72)) = true →
  R (.bool false) w9) ∧
  ((decide (n41_0 ≥ n72)) = false →
  ((decide (n41_1 < 0)) = true →
  R (.bool false) w9) ∧
  ((decide (n41_1 < 0)) = false →
  ∃ n82 : Int, w9.cell? ⟨k9, 0, none⟩ = some (.int .i64 n82) ∧
  ((decide (n41_1 ≥ (IntKind.i64.wrap (n82 - 2)))) = true →
  R (.bool false) w9) ∧
  ((decide (n41_1 ≥ (IntKind.i64.wrap (n82 - 2)))) = false →
  ((decide (n41_2 < 0)) = true →
  R (.bool false) w9) ∧
  ((decide (n41_2 < 0)) = false →
  ∃ n93 : Int, w9.cell? ⟨k9, 1, none⟩ = some (.int .i64 n93) ∧
  ((decide (n41_2 ≥ n93)) = true →
  R (.bool false) w9) ∧
  ((decide (n41_2 ≥ n93)) = false →
  ∃ n97_0 : Int, ∃ n97_1 : Int, ∃ n97_2 : Int, (w9.cell? ⟨k9, 0, none⟩ = some (.int .i64 n97_0) ∧ w9.cell? ⟨k9, 1, none⟩ = some (.int .i64 n97_1) ∧ w9.cell? ⟨k9, 2, none⟩ = some (.int .i64 n97_2)) ∧
  Calls Try.prog 18 #[.agg #[.int .i64 n97_0, .int .i64 n97_1, .int .i64 n97_2], .int .i64 (IntKind.i64.wrap ((Int.tmod (IntKind.i64.wrap n3) n27) + 1))] w9 fun e_5 w10 => ∃ n100_0 : Int, ∃ n100_1 : Int, ∃ n100_2 : Int, ∃ n100_3 : Int, e_5 = .returned (.tuple #[.int .i64 n100_0, .int .i64 n100_1, .int .i64 n100_2, .int .i64 n100_3]) ∧
  (((IntKind.i64.wrap ((Int.tmod (IntKind.i64.wrap n3) n27) + 1)) == n27) = true →
  R (.bool (n100_3 == 70)) w10) ∧
  (((IntKind.i64.wrap ((Int.tmod (IntKind.i64.wrap n3) n27) + 1)) == n27) = false →
  ((n100_3 == 0) = true →
  ((n100_0 == n41_0) = true →
  ((n100_1 == n41_1) = true →
  ((n100_2 == (IntKind.i64.wrap (n41_2 + 1))) = true →
  R (.bool true) w10) ∧
  ((n100_2 == (IntKind.i64.wrap (n41_2 + 1))) = false →
  ((n100_2 == 0) = true →
  ((n100_0 == n41_0) = true →
  ((n100_1 == (IntKind.i64.wrap (n41_1 + 1))) = true →
  R (.bool true) w10) ∧
  ((n100_1 == (IntKind.i64.wrap (n41_1 + 1))) = false →
  ((n100_2 == 0) = true →
  ((n100_1 == 0) = true →
  R (.bool (n100_0 == (IntKind.i64.wrap (n41_0 + 1)))) w10) ∧
  ((n100_1 == 0) = false →
  R (.bool false) w10)) ∧
  ((n100_2 == 0) = false →
  R (.bool false) w10))) ∧
  ((n100_0 == n41_0) = false →
  ((n100_2 == 0) = true →
  ((n100_1 == 0) = true →
  R (.bool (n100_0 == (IntKind.i64.wrap (n41_0 + 1)))) w10) ∧
  ((n100_1 == 0) = false →
  R (.bool false) w10)) ∧
  ((n100_2 == 0) = false →
  R (.bool false) w10))) ∧
  ((n100_2 == 0) = false →
  ((n100_2 == 0) = true →
  ((n100_1 == 0) = true →
  R (.bool (n100_0 == (IntKind.i64.wrap (n41_0 + 1)))) w10) ∧
  ((n100_1 == 0) = false →
  R (.bool false) w10)) ∧
  ((n100_2 == 0) = false →
  R (.bool false) w10)))) ∧
  ((n100_1 == n41_1) = false →
  ((n100_2 == 0) = true →
  ((n100_0 == n41_0) = true →
  ((n100_1 == (IntKind.i64.wrap (n41_1 + 1))) = true →
  R (.bool true) w10) ∧
  ((n100_1 == (IntKind.i64.wrap (n41_1 + 1))) = false →
  ((n100_2 == 0) = true →
  ((n100_1 == 0) = true →
  R (.bool (n100_0 == (IntKind.i64.wrap (n41_0 + 1)))) w10) ∧
  ((n100_1 == 0) = false →
  R (.bool false) w10)) ∧
  ((n100_2 == 0) = false →
  R (.bool false) w10))) ∧
  ((n100_0 == n41_0) = false →
  ((n100_2 == 0) = true →
  ((n100_1 == 0) = true →
  R (.bool (n100_0 == (IntKind.i64.wrap (n41_0 + 1)))) w10) ∧
  ((n100_1 == 0) = false →
  R (.bool false) w10)) ∧
  ((n100_2 == 0) = false →
  R (.bool false) w10))) ∧
  ((n100_2 == 0) = false →
  ((n100_2 == 0) = true →
  ((n100_1 == 0) = true →
  R (.bool (n100_0 == (IntKind.i64.wrap (n41_0 + 1)))) w10) ∧
  ((n100_1 == 0) = false →
  R (.bool false) w10)) ∧
  ((n100_2 == 0) = false →
  R (.bool false) w10)))) ∧
  ((n100_0 == n41_0) = false →
  ((n100_2 == 0) = true →
  ((n100_0 == n41_0) = true →
  ((n100_1 == (IntKind.i64.wrap (n41_1 + 1))) = true →
  R (.bool true) w10) ∧
  ((n100_1 == (IntKind.i64.wrap (n41_1 + 1))) = false →
  ((n100_2 == 0) = true →
  ((n100_1 == 0) = true →
  R (.bool (n100_0 == (IntKind.i64.wrap (n41_0 + 1)))) w10) ∧
  ((n100_1 == 0) = false →
  R (.bool false) w10)) ∧
  ((n100_2 == 0) = false →
  R (.bool false) w10))) ∧
  ((n100_0 == n41_0) = false →
  ((n100_2 == 0) = true →
  ((n100_1 == 0) = true →
  R (.bool (n100_0 == (IntKind.i64.wrap (n41_0 + 1)))) w10) ∧
  ((n100_1 == 0) = false →
  R (.bool false) w10)) ∧
  ((n100_2 == 0) = false →
  R (.bool false) w10))) ∧
  ((n100_2 == 0) = false →
  ((n100_2 == 0) = true →
  ((n100_1 == 0) = true →
  R (.bool (n100_0 == (IntKind.i64.wrap (n41_0 + 1)))) w10) ∧
  ((n100_1 == 0) = false →
  R (.bool false) w10)) ∧
  ((n100_2 == 0) = false →
  R (.bool false) w10)))) ∧
  ((n100_3 == 0) = false →
  R (.bool false) w10)))))))))))))
theorem revetmentlaw07_LayoutBack_eq (n0 : Int) (n1 : Int) (n2 : Int) (n3 : Int) (w : World) (R : Value → World → Prop) : revetmentlaw07_LayoutBack n0 n1 n2 n3 w R = fnP Try.prog Try.f6 .o [.int .u8 n0, .int .u8 n1, .int .u8 n2, .int .u16 n3] w R := by kernel_rfl
theorem revetmentlaw07_LayoutBack_calls {n0 : Int} {n1 : Int} {n2 : Int} {n3 : Int} {w : World} {R : Value → World → Prop} (h : revetmentlaw07_LayoutBack n0 n1 n2 n3 w R) : Calls Try.prog 6 #[.int .u8 n0, .int .u8 n1, .int .u8 n2, .int .u16 n3] w fun e w1 => ∃ v, e = .returned v ∧ R v w1 := fnP_calls callable Try.func6 (revetmentlaw07_LayoutBack_eq n0 n1 n2 n3 w R ▸ h)

/-- revetment/revetmentlaw07.LayoutApart -/
def revetmentlaw07_LayoutApart (n0 : Int) (n1 : Int) (n2 : Int) (n3 : Int) (n4 : Int) (w : World) (R : Value → World → Prop) : Prop :=
  Calls Try.prog 9 #[.int .u8 n0, .int .u8 n1, .int .u8 n2] w fun e w1 => ∃ n30_0 : Int, ∃ n30_1 : Int, ∃ n30_2 : Int, e = .returned (.agg #[.int .i64 n30_0, .int .i64 n30_1, .int .i64 n30_2]) ∧
  Alloc #[.int .i64 0, .int .i64 0, .int .i64 0] 23 w1 fun k11 w2 =>
  St ⟨k11, 0, none⟩ (.int .i64 n30_0) w2 fun w3 =>
  St ⟨k11, 1, none⟩ (.int .i64 n30_1) w3 fun w4 =>
  St ⟨k11, 2, none⟩ (.int .i64 n30_2) w4 fun w5 =>
  ∃ n31_0 : Int, ∃ n31_1 : Int, ∃ n31_2 : Int, (w5.cell? ⟨k11, 0, none⟩ = some (.int .i64 n31_0) ∧ w5.cell? ⟨k11, 1, none⟩ = some (.int .i64 n31_1) ∧ w5.cell? ⟨k11, 2, none⟩ = some (.int .i64 n31_2)) ∧
  Calls Try.prog 17 #[.agg #[.int .i64 n31_0, .int .i64 n31_1, .int .i64 n31_2]] w5 fun e_1 w6 => ∃ n32 : Int, e_1 = .returned (.int .i64 n32) ∧
  ((decide (n32 < 1)) = true →
  R (.bool false) w6) ∧
  ((decide (n32 < 1)) = false →
  Calls Try.prog 12 #[] w6 fun e_2 w7 => ∃ b36 : Bool, e_2 = .returned (.bool b36) ∧
  ((!b36) = true →
  R (.bool false) w7) ∧
  ((!b36) = false →
  n32 ≠ 0 ∧
  n32 ≠ 0 ∧
  ∃ n48_0 : Int, ∃ n48_1 : Int, ∃ n48_2 : Int, (w7.cell? ⟨k11, 0, none⟩ = some (.int .i64 n48_0) ∧ w7.cell? ⟨k11, 1, none⟩ = some (.int .i64 n48_1) ∧ w7.cell? ⟨k11, 2, none⟩ = some (.int .i64 n48_2)) ∧
  Calls Try.prog 18 #[.agg #[.int .i64 n48_0, .int .i64 n48_1, .int .i64 n48_2], .int .i64 (Int.tmod (IntKind.i64.wrap n3) n32)] w7 fun e_3 w8 => ∃ n50_0 : Int, ∃ n50_1 : Int, ∃ n50_2 : Int, ∃ n50_3 : Int, e_3 = .returned (.tuple #[.int .i64 n50_0, .int .i64 n50_1, .int .i64 n50_2, .int .i64 n50_3]) ∧
  ∃ n56_0 : Int, ∃ n56_1 : Int, ∃ n56_2 : Int, (w8.cell? ⟨k11, 0, none⟩ = some (.int .i64 n56_0) ∧ w8.cell? ⟨k11, 1, none⟩ = some (.int .i64 n56_1) ∧ w8.cell? ⟨k11, 2, none⟩ = some (.int .i64 n56_2)) ∧
  Calls Try.prog 18 #[.agg #[.int .i64 n56_0, .int .i64 n56_1, .int .i64 n56_2], .int .i64 (Int.tmod (IntKind.i64.wrap n4) n32)] w8 fun e_4 w9 => ∃ n58_0 : Int, ∃ n58_1 : Int, ∃ n58_2 : Int, ∃ n58_3 : Int, e_4 = .returned (.tuple #[.int .i64 n58_0, .int .i64 n58_1, .int .i64 n58_2, .int .i64 n58_3]) ∧
  Join (fun vs w10 => ∃ b23 : Bool, vs = [.bool b23] ∧
  ∃ n84_0 : Int, ∃ n84_1 : Int, ∃ n84_2 : Int, (w10.cell? ⟨k11, 0, none⟩ = some (.int .i64 n84_0) ∧ w10.cell? ⟨k11, 1, none⟩ = some (.int .i64 n84_1) ∧ w10.cell? ⟨k11, 2, none⟩ = some (.int .i64 n84_2)) ∧
  Calls Try.prog 10 #[.agg #[.int .i64 n84_0, .int .i64 n84_1, .int .i64 n84_2], .int .i64 n50_0] w10 fun e_5 w11 => ∃ n86_0 : Int, ∃ n86_1 : Int, e_5 = .returned (.tuple #[.int .i64 n86_0, .int .i64 n86_1]) ∧
  ∃ n89_0 : Int, ∃ n89_1 : Int, ∃ n89_2 : Int, (w11.cell? ⟨k11, 0, none⟩ = some (.int .i64 n89_0) ∧ w11.cell? ⟨k11, 1, none⟩ = some (.int .i64 n89_1) ∧ w11.cell? ⟨k11, 2, none⟩ = some (.int .i64 n89_2)) ∧
  Calls Try.prog 11 #[.agg #[.int .i64 n89_0, .int .i64 n89_1, .int .i64 n89_2], .int .i64 n50_0, .int .i64 n50_1] w11 fun e_6 w12 => ∃ n92 : Int, e_6 = .returned (.int .i64 n92) ∧
  ((n50_3 == 0) = true →
  ((n58_3 == 0) = true →
  ((b23 == ((Int.tmod (IntKind.i64.wrap n3) n32) == (Int.tmod (IntKind.i64.wrap n4) n32))) = true →
  ((n92 != n86_0) = true →
  R (.bool (n92 != n86_1)) w12) ∧
  ((n92 != n86_0) = false →
  R (.bool false) w12)) ∧
  ((b23 == ((Int.tmod (IntKind.i64.wrap n3) n32) == (Int.tmod (IntKind.i64.wrap n4) n32))) = false →
  R (.bool false) w12)) ∧
  ((n58_3 == 0) = false →
  R (.bool false) w12)) ∧
  ((n50_3 == 0) = false →
  R (.bool false) w12)) fun J =>
  ∃ D : World → Prop, D w9.drew ∧
  ∃ n63_0 : Int, ∃ n63_1 : Int, ∃ n63_2 : Int, (∀ w, D w → w.cell? ⟨k11, 0, none⟩ = some (.int .i64 n63_0) ∧ w.cell? ⟨k11, 1, none⟩ = some (.int .i64 n63_1) ∧ w.cell? ⟨k11, 2, none⟩ = some (.int .i64 n63_2)) ∧
  Calls Try.prog 11 #[.agg #[.int .i64 n63_0, .int .i64 n63_1, .int .i64 n63_2], .int .i64 n50_0, .int .i64 n50_1] w9.drew fun e_7 w13 => ∃ n66 : Int, e_7 = .returned (.int .i64 n66) ∧
  D w13 ∧
  ∃ n67_0 : Int, ∃ n67_1 : Int, ∃ n67_2 : Int, (∀ w, D w → w.cell? ⟨k11, 0, none⟩ = some (.int .i64 n67_0) ∧ w.cell? ⟨k11, 1, none⟩ = some (.int .i64 n67_1) ∧ w.cell? ⟨k11, 2, none⟩ = some (.int .i64 n67_2)) ∧
  Calls Try.prog 11 #[.agg #[.int .i64 n67_0, .int .i64 n67_1, .int .i64 n67_2], .int .i64 n58_0, .int .i64 n58_1] w13 fun e_8 w14 => ∃ n70 : Int, e_8 = .returned (.int .i64 n70) ∧
  D w14 ∧
  ((n66 == n70) = true →
  ∃ n73_0 : Int, ∃ n73_1 : Int, ∃ n73_2 : Int, (∀ w, D w → w.cell? ⟨k11, 0, none⟩ = some (.int .i64 n73_0) ∧ w.cell? ⟨k11, 1, none⟩ = some (.int .i64 n73_1) ∧ w.cell? ⟨k11, 2, none⟩ = some (.int .i64 n73_2)) ∧
  Calls Try.prog 15 #[.agg #[.int .i64 n73_0, .int .i64 n73_1, .int .i64 n73_2], .int .i64 n50_0, .int .i64 n50_2] w14 fun e_9 w15 => ∃ n76 : Int, e_9 = .returned (.int .i64 n76) ∧
  D w15 ∧
  ∃ n77_0 : Int, ∃ n77_1 : Int, ∃ n77_2 : Int, (∀ w, D w → w.cell? ⟨k11, 0, none⟩ = some (.int .i64 n77_0) ∧ w.cell? ⟨k11, 1, none⟩ = some (.int .i64 n77_1) ∧ w.cell? ⟨k11, 2, none⟩ = some (.int .i64 n77_2)) ∧
  Calls Try.prog 15 #[.agg #[.int .i64 n77_0, .int .i64 n77_1, .int .i64 n77_2], .int .i64 n58_0, .int .i64 n58_2] w15 fun e_10 w16 => ∃ n80 : Int, e_10 = .returned (.int .i64 n80) ∧
  D w16 ∧
  J [.bool (n76 == n80)] w16) ∧
  ((n66 == n70) = false →
  J [.bool false] w14)))
theorem revetmentlaw07_LayoutApart_eq (n0 : Int) (n1 : Int) (n2 : Int) (n3 : Int) (n4 : Int) (w : World) (R : Value → World → Prop) : revetmentlaw07_LayoutApart n0 n1 n2 n3 n4 w R = fnP Try.prog Try.f7 (.s .o (.s .o (.s .o (.s .o (.s .o (.s .o (.s .o (.s .o (.j [(23, .one .bool)] .o .o))))))))) [.int .u8 n0, .int .u8 n1, .int .u8 n2, .int .u16 n3, .int .u16 n4] w R := by kernel_rfl
theorem revetmentlaw07_LayoutApart_calls {n0 : Int} {n1 : Int} {n2 : Int} {n3 : Int} {n4 : Int} {w : World} {R : Value → World → Prop} (h : revetmentlaw07_LayoutApart n0 n1 n2 n3 n4 w R) : Calls Try.prog 7 #[.int .u8 n0, .int .u8 n1, .int .u8 n2, .int .u16 n3, .int .u16 n4] w fun e w1 => ∃ v, e = .returned v ∧ R v w1 := fnP_calls callable Try.func7 (revetmentlaw07_LayoutApart_eq n0 n1 n2 n3 n4 w R ▸ h)

/-- revetment/revetmentlaw07.LayoutTells -/
def revetmentlaw07_LayoutTells (n0_0 : Int) (n0_1 : Int) (n0_2 : Int) (n1 : Int) (n2 : Int) (n3 : Int) (n4 : Int) (w : World) (R : Value → World → Prop) : Prop :=
  Alloc #[.int .i64 n0_0, .int .i64 n0_1, .int .i64 n0_2] 23 w fun k5 w1 =>
  ∃ n28_0 : Int, ∃ n28_1 : Int, ∃ n28_2 : Int, (w1.cell? ⟨k5, 0, none⟩ = some (.int .i64 n28_0) ∧ w1.cell? ⟨k5, 1, none⟩ = some (.int .i64 n28_1) ∧ w1.cell? ⟨k5, 2, none⟩ = some (.int .i64 n28_2)) ∧
  Calls Try.prog 18 #[.agg #[.int .i64 n28_0, .int .i64 n28_1, .int .i64 n28_2], .int .i64 n4] w1 fun e w2 => ∃ n30_0 : Int, ∃ n30_1 : Int, ∃ n30_2 : Int, ∃ n30_3 : Int, e = .returned (.tuple #[.int .i64 n30_0, .int .i64 n30_1, .int .i64 n30_2, .int .i64 n30_3]) ∧
  ∃ n36_0 : Int, ∃ n36_1 : Int, ∃ n36_2 : Int, (w2.cell? ⟨k5, 0, none⟩ = some (.int .i64 n36_0) ∧ w2.cell? ⟨k5, 1, none⟩ = some (.int .i64 n36_1) ∧ w2.cell? ⟨k5, 2, none⟩ = some (.int .i64 n36_2)) ∧
  Calls Try.prog 20 #[.agg #[.int .i64 n36_0, .int .i64 n36_1, .int .i64 n36_2], .int .i64 n4] w2 fun e_1 w3 => ∃ n38_0 : Int, ∃ n38_1 : Int, ∃ n38_2 : Int, ∃ n38_3 : Int, e_1 = .returned (.tuple #[.int .i64 n38_0, .int .i64 n38_1, .int .i64 n38_2, .int .i64 n38_3]) ∧
  ∃ n44_0 : Int, ∃ n44_1 : Int, ∃ n44_2 : Int, (w3.cell? ⟨k5, 0, none⟩ = some (.int .i64 n44_0) ∧ w3.cell? ⟨k5, 1, none⟩ = some (.int .i64 n44_1) ∧ w3.cell? ⟨k5, 2, none⟩ = some (.int .i64 n44_2)) ∧
  Calls Try.prog 10 #[.agg #[.int .i64 n44_0, .int .i64 n44_1, .int .i64 n44_2], .int .i64 n1] w3 fun e_2 w4 => ∃ n46_0 : Int, ∃ n46_1 : Int, e_2 = .returned (.tuple #[.int .i64 n46_0, .int .i64 n46_1]) ∧
  ∃ n50_0 : Int, ∃ n50_1 : Int, ∃ n50_2 : Int, (w4.cell? ⟨k5, 0, none⟩ = some (.int .i64 n50_0) ∧ w4.cell? ⟨k5, 1, none⟩ = some (.int .i64 n50_1) ∧ w4.cell? ⟨k5, 2, none⟩ = some (.int .i64 n50_2)) ∧
  Calls Try.prog 21 #[.agg #[.int .i64 n50_0, .int .i64 n50_1, .int .i64 n50_2], .int .i64 n1] w4 fun e_3 w5 => ∃ n52_0 : Int, ∃ n52_1 : Int, e_3 = .returned (.tuple #[.int .i64 n52_0, .int .i64 n52_1]) ∧
  ∃ n56_0 : Int, ∃ n56_1 : Int, ∃ n56_2 : Int, (w5.cell? ⟨k5, 0, none⟩ = some (.int .i64 n56_0) ∧ w5.cell? ⟨k5, 1, none⟩ = some (.int .i64 n56_1) ∧ w5.cell? ⟨k5, 2, none⟩ = some (.int .i64 n56_2)) ∧
  Calls Try.prog 19 #[.agg #[.int .i64 n56_0, .int .i64 n56_1, .int .i64 n56_2], .int .i64 n1, .int .i64 n2, .int .i64 n3] w5 fun e_4 w6 => ∃ n60_0 : Int, ∃ n60_1 : Int, e_4 = .returned (.tuple #[.int .i64 n60_0, .int .i64 n60_1]) ∧
  ∃ n64_0 : Int, ∃ n64_1 : Int, ∃ n64_2 : Int, (w6.cell? ⟨k5, 0, none⟩ = some (.int .i64 n64_0) ∧ w6.cell? ⟨k5, 1, none⟩ = some (.int .i64 n64_1) ∧ w6.cell? ⟨k5, 2, none⟩ = some (.int .i64 n64_2)) ∧
  Calls Try.prog 22 #[.agg #[.int .i64 n64_0, .int .i64 n64_1, .int .i64 n64_2], .int .i64 n1, .int .i64 n2, .int .i64 n3] w6 fun e_5 w7 => ∃ n68_0 : Int, ∃ n68_1 : Int, e_5 = .returned (.tuple #[.int .i64 n68_0, .int .i64 n68_1]) ∧
  ((n30_0 != n38_0) = true →
  R (.bool false) w7) ∧
  ((n30_0 != n38_0) = false →
  ((n30_1 != n38_1) = true →
  R (.bool false) w7) ∧
  ((n30_1 != n38_1) = false →
  ((n30_2 != n38_2) = true →
  R (.bool false) w7) ∧
  ((n30_2 != n38_2) = false →
  ((n30_3 != n38_3) = true →
  R (.bool false) w7) ∧
  ((n30_3 != n38_3) = false →
  ((n46_0 != n52_0) = true →
  R (.bool false) w7) ∧
  ((n46_0 != n52_0) = false →
  ((n46_1 != n52_1) = true →
  R (.bool false) w7) ∧
  ((n46_1 != n52_1) = false →
  ((n60_0 != n68_0) = true →
  R (.bool false) w7) ∧
  ((n60_0 != n68_0) = false →
  ((n60_1 != n68_1) = true →
  R (.bool false) w7) ∧
  ((n60_1 != n68_1) = false →
  ∃ D : World → Prop, D w7.drew ∧
  ∃ n109_0 : Int, ∃ n109_1 : Int, ∃ n109_2 : Int, (∀ w, D w → w.cell? ⟨k5, 0, none⟩ = some (.int .i64 n109_0) ∧ w.cell? ⟨k5, 1, none⟩ = some (.int .i64 n109_1) ∧ w.cell? ⟨k5, 2, none⟩ = some (.int .i64 n109_2)) ∧
  Calls Try.prog 23 #[.agg #[.int .i64 n109_0, .int .i64 n109_1, .int .i64 n109_2]] w7.drew fun e_6 w8 => ∃ n110 : Int, e_6 = .returned (.int .i64 n110) ∧
  D w8 ∧
  ∃ n111_0 : Int, ∃ n111_1 : Int, ∃ n111_2 : Int, (∀ w, D w → w.cell? ⟨k5, 0, none⟩ = some (.int .i64 n111_0) ∧ w.cell? ⟨k5, 1, none⟩ = some (.int .i64 n111_1) ∧ w.cell? ⟨k5, 2, none⟩ = some (.int .i64 n111_2)) ∧
  Calls Try.prog 24 #[.agg #[.int .i64 n111_0, .int .i64 n111_1, .int .i64 n111_2]] w8 fun e_7 w9 => ∃ n112 : Int, e_7 = .returned (.int .i64 n112) ∧
  D w9 ∧
  ((n110 == n112) = true →
  ∃ n115_0 : Int, ∃ n115_1 : Int, ∃ n115_2 : Int, (∀ w, D w → w.cell? ⟨k5, 0, none⟩ = some (.int .i64 n115_0) ∧ w.cell? ⟨k5, 1, none⟩ = some (.int .i64 n115_1) ∧ w.cell? ⟨k5, 2, none⟩ = some (.int .i64 n115_2)) ∧
  Calls Try.prog 17 #[.agg #[.int .i64 n115_0, .int .i64 n115_1, .int .i64 n115_2]] w9 fun e_8 w10 => ∃ n116 : Int, e_8 = .returned (.int .i64 n116) ∧
  D w10 ∧
  ∃ n117_0 : Int, ∃ n117_1 : Int, ∃ n117_2 : Int, (∀ w, D w → w.cell? ⟨k5, 0, none⟩ = some (.int .i64 n117_0) ∧ w.cell? ⟨k5, 1, none⟩ = some (.int .i64 n117_1) ∧ w.cell? ⟨k5, 2, none⟩ = some (.int .i64 n117_2)) ∧
  Calls Try.prog 25 #[.agg #[.int .i64 n117_0, .int .i64 n117_1, .int .i64 n117_2]] w10 fun e_9 w11 => ∃ n118 : Int, e_9 = .returned (.int .i64 n118) ∧
  D w11 ∧
  ((n116 == n118) = true →
  ∃ n122_0 : Int, ∃ n122_1 : Int, ∃ n122_2 : Int, (∀ w, D w → w.cell? ⟨k5, 0, none⟩ = some (.int .i64 n122_0) ∧ w.cell? ⟨k5, 1, none⟩ = some (.int .i64 n122_1) ∧ w.cell? ⟨k5, 2, none⟩ = some (.int .i64 n122_2)) ∧
  Calls Try.prog 14 #[.agg #[.int .i64 n122_0, .int .i64 n122_1, .int .i64 n122_2]] w11 fun e_10 w12 => ∃ n123 : Int, e_10 = .returned (.int .i64 n123) ∧
  D w12 ∧
  ∃ n124_0 : Int, ∃ n124_1 : Int, ∃ n124_2 : Int, (∀ w, D w → w.cell? ⟨k5, 0, none⟩ = some (.int .i64 n124_0) ∧ w.cell? ⟨k5, 1, none⟩ = some (.int .i64 n124_1) ∧ w.cell? ⟨k5, 2, none⟩ = some (.int .i64 n124_2)) ∧
  Calls Try.prog 26 #[.agg #[.int .i64 n124_0, .int .i64 n124_1, .int .i64 n124_2]] w12 fun e_11 w13 => ∃ n125 : Int, e_11 = .returned (.int .i64 n125) ∧
  D w13 ∧
  ((n123 == n125) = true →
  Calls Try.prog 16 #[.int .i64 n4, .int .i64 n2] w13 fun e_12 w14 => ∃ n131 : Int, e_12 = .returned (.int .i64 n131) ∧
  D w14 ∧
  Calls Try.prog 27 #[.int .i64 n4, .int .i64 n2] w14 fun e_13 w15 => ∃ n134 : Int, e_13 = .returned (.int .i64 n134) ∧
  D w15 ∧
  ((n131 == n134) = true →
  ∃ n138_0 : Int, ∃ n138_1 : Int, ∃ n138_2 : Int, (∀ w, D w → w.cell? ⟨k5, 0, none⟩ = some (.int .i64 n138_0) ∧ w.cell? ⟨k5, 1, none⟩ = some (.int .i64 n138_1) ∧ w.cell? ⟨k5, 2, none⟩ = some (.int .i64 n138_2)) ∧
  Calls Try.prog 11 #[.agg #[.int .i64 n138_0, .int .i64 n138_1, .int .i64 n138_2], .int .i64 n1, .int .i64 n2] w15 fun e_14 w16 => ∃ n141 : Int, e_14 = .returned (.int .i64 n141) ∧
  D w16 ∧
  ∃ n142_0 : Int, ∃ n142_1 : Int, ∃ n142_2 : Int, (∀ w, D w → w.cell? ⟨k5, 0, none⟩ = some (.int .i64 n142_0) ∧ w.cell? ⟨k5, 1, none⟩ = some (.int .i64 n142_1) ∧ w.cell? ⟨k5, 2, none⟩ = some (.int .i64 n142_2)) ∧
  Calls Try.prog 28 #[.agg #[.int .i64 n142_0, .int .i64 n142_1, .int .i64 n142_2], .int .i64 n1, .int .i64 n2] w16 fun e_15 w17 => ∃ n145 : Int, e_15 = .returned (.int .i64 n145) ∧
  D w17 ∧
  ((n141 == n145) = true →
  ∃ n149_0 : Int, ∃ n149_1 : Int, ∃ n149_2 : Int, (∀ w, D w → w.cell? ⟨k5, 0, none⟩ = some (.int .i64 n149_0) ∧ w.cell? ⟨k5, 1, none⟩ = some (.int .i64 n149_1) ∧ w.cell? ⟨k5, 2, none⟩ = some (.int .i64 n149_2)) ∧
  Calls Try.prog 13 #[.agg #[.int .i64 n149_0, .int .i64 n149_1, .int .i64 n149_2], .int .i64 n1, .int .i64 n2] w17 fun e_16 w18 => ∃ n152 : Int, e_16 = .returned (.int .i64 n152) ∧
  D w18 ∧
  ∃ n153_0 : Int, ∃ n153_1 : Int, ∃ n153_2 : Int, (∀ w, D w → w.cell? ⟨k5, 0, none⟩ = some (.int .i64 n153_0) ∧ w.cell? ⟨k5, 1, none⟩ = some (.int .i64 n153_1) ∧ w.cell? ⟨k5, 2, none⟩ = some (.int .i64 n153_2)) ∧
  Calls Try.prog 29 #[.agg #[.int .i64 n153_0, .int .i64 n153_1, .int .i64 n153_2], .int .i64 n1, .int .i64 n2] w18 fun e_17 w19 => ∃ n156 : Int, e_17 = .returned (.int .i64 n156) ∧
  D w19 ∧
  ((n152 == n156) = true →
  ∃ n160_0 : Int, ∃ n160_1 : Int, ∃ n160_2 : Int, (∀ w, D w → w.cell? ⟨k5, 0, none⟩ = some (.int .i64 n160_0) ∧ w.cell? ⟨k5, 1, none⟩ = some (.int .i64 n160_1) ∧ w.cell? ⟨k5, 2, none⟩ = some (.int .i64 n160_2)) ∧
  Calls Try.prog 15 #[.agg #[.int .i64 n160_0, .int .i64 n160_1, .int .i64 n160_2], .int .i64 n1, .int .i64 n3] w19 fun e_18 w20 => ∃ n163 : Int, e_18 = .returned (.int .i64 n163) ∧
  D w20 ∧
  ∃ n164_0 : Int, ∃ n164_1 : Int, ∃ n164_2 : Int, (∀ w, D w → w.cell? ⟨k5, 0, none⟩ = some (.int .i64 n164_0) ∧ w.cell? ⟨k5, 1, none⟩ = some (.int .i64 n164_1) ∧ w.cell? ⟨k5, 2, none⟩ = some (.int .i64 n164_2)) ∧
  Calls Try.prog 30 #[.agg #[.int .i64 n164_0, .int .i64 n164_1, .int .i64 n164_2], .int .i64 n1, .int .i64 n3] w20 fun e_19 w21 => ∃ n167 : Int, e_19 = .returned (.int .i64 n167) ∧
  D w21 ∧
  ((n163 == n167) = true →
  Calls Try.prog 12 #[] w21 fun e_20 w22 => ∃ b171 : Bool, e_20 = .returned (.bool b171) ∧
  D w22 ∧
  R (.bool b171) w22) ∧
  ((n163 == n167) = false →
  R (.bool false) w21)) ∧
  ((n152 == n156) = false →
  R (.bool false) w19)) ∧
  ((n141 == n145) = false →
  R (.bool false) w17)) ∧
  ((n131 == n134) = false →
  R (.bool false) w15)) ∧
  ((n123 == n125) = false →
  R (.bool false) w13)) ∧
  ((n116 == n118) = false →
  R (.bool false) w11)) ∧
  ((n110 == n112) = false →
  R (.bool false) w9)))))))))
theorem revetmentlaw07_LayoutTells_eq (n0_0 : Int) (n0_1 : Int) (n0_2 : Int) (n1 : Int) (n2 : Int) (n3 : Int) (n4 : Int) (w : World) (R : Value → World → Prop) : revetmentlaw07_LayoutTells n0_0 n0_1 n0_2 n1 n2 n3 n4 w R = fnP Try.prog Try.f8 .o [.agg #[.int .i64 n0_0, .int .i64 n0_1, .int .i64 n0_2], .int .i64 n1, .int .i64 n2, .int .i64 n3, .int .i64 n4] w R := by kernel_rfl
theorem revetmentlaw07_LayoutTells_calls {n0_0 : Int} {n0_1 : Int} {n0_2 : Int} {n1 : Int} {n2 : Int} {n3 : Int} {n4 : Int} {w : World} {R : Value → World → Prop} (h : revetmentlaw07_LayoutTells n0_0 n0_1 n0_2 n1 n2 n3 n4 w R) : Calls Try.prog 8 #[.agg #[.int .i64 n0_0, .int .i64 n0_1, .int .i64 n0_2], .int .i64 n1, .int .i64 n2, .int .i64 n3, .int .i64 n4] w fun e w1 => ∃ v, e = .returned v ∧ R v w1 := fnP_calls callable Try.func8 (revetmentlaw07_LayoutTells_eq n0_0 n0_1 n0_2 n1 n2 n3 n4 w R ▸ h)

/-- revetment/revetmentlaw07.good -/
def revetmentlaw07_good (n0 : Int) (n1 : Int) (n2 : Int) (w : World) (R : Value → World → Prop) : Prop :=
  Alloc #[.int .i64 0, .int .i64 0, .int .i64 0] 23 w fun k6 w1 =>
  St ⟨k6, 0, none⟩ (.int .i64 (IntKind.i64.wrap (4 + (Int.tmod (IntKind.i64.wrap n0) 7)))) w1 fun w2 =>
  St ⟨k6, 1, none⟩ (.int .i64 (IntKind.i64.wrap (1 + (Int.tmod (IntKind.i64.wrap n1) 4)))) w2 fun w3 =>
  St ⟨k6, 2, none⟩ (.int .i64 (IntKind.i64.wrap (1 + (IntKind.i64.wrap n2)))) w3 fun w4 =>
  ∃ nr6_0 : Int, ∃ nr6_1 : Int, ∃ nr6_2 : Int, (w4.cell? ⟨k6, 0, none⟩ = some (.int .i64 nr6_0) ∧ w4.cell? ⟨k6, 1, none⟩ = some (.int .i64 nr6_1) ∧ w4.cell? ⟨k6, 2, none⟩ = some (.int .i64 nr6_2)) ∧
  R (.agg #[.int .i64 nr6_0, .int .i64 nr6_1, .int .i64 nr6_2]) w4
theorem revetmentlaw07_good_eq (n0 : Int) (n1 : Int) (n2 : Int) (w : World) (R : Value → World → Prop) : revetmentlaw07_good n0 n1 n2 w R = fnP Try.prog Try.f9 .o [.int .u8 n0, .int .u8 n1, .int .u8 n2] w R := by kernel_rfl
theorem revetmentlaw07_good_calls {n0 : Int} {n1 : Int} {n2 : Int} {w : World} {R : Value → World → Prop} (h : revetmentlaw07_good n0 n1 n2 w R) : Calls Try.prog 9 #[.int .u8 n0, .int .u8 n1, .int .u8 n2] w fun e w1 => ∃ v, e = .returned v ∧ R v w1 := fnP_calls callable Try.func9 (revetmentlaw07_good_eq n0 n1 n2 w R ▸ h)

/-- revetment/layout.Parity -/
def layout_Parity (n0_0 : Int) (n0_1 : Int) (n0_2 : Int) (n1 : Int) (w : World) (R : Value → World → Prop) : Prop :=
  Alloc #[.int .i64 n0_0, .int .i64 n0_1, .int .i64 n0_2] 23 w fun k2 w1 =>
  ∃ n8_0 : Int, ∃ n8_1 : Int, ∃ n8_2 : Int, (w1.cell? ⟨k2, 0, none⟩ = some (.int .i64 n8_0) ∧ w1.cell? ⟨k2, 1, none⟩ = some (.int .i64 n8_1) ∧ w1.cell? ⟨k2, 2, none⟩ = some (.int .i64 n8_2)) ∧
  Alloc #[.int .i64 0, .int .i64 0, .int .i64 0] 46 w1 fun k6 w2 =>
  St ⟨k6, 0, none⟩ (.int .i64 n8_0) w2 fun w3 =>
  St ⟨k6, 1, none⟩ (.int .i64 n8_1) w3 fun w4 =>
  St ⟨k6, 2, none⟩ (.int .i64 n8_2) w4 fun w5 =>
  ∃ n10_0 : Int, ∃ n10_1 : Int, ∃ n10_2 : Int, (w5.cell? ⟨k6, 0, none⟩ = some (.int .i64 n10_0) ∧ w5.cell? ⟨k6, 1, none⟩ = some (.int .i64 n10_1) ∧ w5.cell? ⟨k6, 2, none⟩ = some (.int .i64 n10_2)) ∧
  Calls Try.prog 31 #[.agg #[.int .i64 n10_0, .int .i64 n10_1, .int .i64 n10_2], .int .i64 n1, .int .i64 0, .int .i64 1] w5 fun e w6 => ∃ b12 : Bool, e = .returned (.bool b12) ∧
  ((!b12) = true →
  R (.tuple #[.int .i64 0, .int .i64 0]) w6) ∧
  ((!b12) = false →
  ∃ n14_0 : Int, ∃ n14_1 : Int, ∃ n14_2 : Int, (w6.cell? ⟨k6, 0, none⟩ = some (.int .i64 n14_0) ∧ w6.cell? ⟨k6, 1, none⟩ = some (.int .i64 n14_1) ∧ w6.cell? ⟨k6, 2, none⟩ = some (.int .i64 n14_2)) ∧
  Calls Try.prog 32 #[.agg #[.int .i64 n14_0, .int .i64 n14_1, .int .i64 n14_2], .int .i64 n1] w6 fun e_1 w7 => ∃ n16 : Int, e_1 = .returned (.int .i64 n16) ∧
  ∃ n20 : Int, w7.cell? ⟨k6, 0, none⟩ = some (.int .i64 n20) ∧
  ∃ n25 : Int, w7.cell? ⟨k6, 0, none⟩ = some (.int .i64 n25) ∧
  n25 ≠ 0 ∧
  R (.tuple #[.int .i64 (Int.tmod (IntKind.i64.wrap ((IntKind.i64.wrap (n16 + n20)) - 1)) n25), .int .i64 n16]) w7)
theorem layout_Parity_eq (n0_0 : Int) (n0_1 : Int) (n0_2 : Int) (n1 : Int) (w : World) (R : Value → World → Prop) : layout_Parity n0_0 n0_1 n0_2 n1 w R = fnP Try.prog Try.f10 .o [.agg #[.int .i64 n0_0, .int .i64 n0_1, .int .i64 n0_2], .int .i64 n1] w R := by kernel_rfl
theorem layout_Parity_calls {n0_0 : Int} {n0_1 : Int} {n0_2 : Int} {n1 : Int} {w : World} {R : Value → World → Prop} (h : layout_Parity n0_0 n0_1 n0_2 n1 w R) : Calls Try.prog 10 #[.agg #[.int .i64 n0_0, .int .i64 n0_1, .int .i64 n0_2], .int .i64 n1] w fun e w1 => ∃ v, e = .returned v ∧ R v w1 := fnP_calls callable Try.func10 (layout_Parity_eq n0_0 n0_1 n0_2 n1 w R ▸ h)

/-- revetment/layout.Column -/
def layout_Column (n0_0 : Int) (n0_1 : Int) (n0_2 : Int) (n1 : Int) (n2 : Int) (w : World) (R : Value → World → Prop) : Prop :=
  Alloc #[.int .i64 n0_0, .int .i64 n0_1, .int .i64 n0_2] 23 w fun k3 w1 =>
  ∃ n8_0 : Int, ∃ n8_1 : Int, ∃ n8_2 : Int, (w1.cell? ⟨k3, 0, none⟩ = some (.int .i64 n8_0) ∧ w1.cell? ⟨k3, 1, none⟩ = some (.int .i64 n8_1) ∧ w1.cell? ⟨k3, 2, none⟩ = some (.int .i64 n8_2)) ∧
  Alloc #[.int .i64 0, .int .i64 0, .int .i64 0] 46 w1 fun k7 w2 =>
  St ⟨k7, 0, none⟩ (.int .i64 n8_0) w2 fun w3 =>
  St ⟨k7, 1, none⟩ (.int .i64 n8_1) w3 fun w4 =>
  St ⟨k7, 2, none⟩ (.int .i64 n8_2) w4 fun w5 =>
  ∃ D : World → Prop, D w5.drew ∧
  ∃ n10_0 : Int, ∃ n10_1 : Int, ∃ n10_2 : Int, (∀ w, D w → w.cell? ⟨k7, 0, none⟩ = some (.int .i64 n10_0) ∧ w.cell? ⟨k7, 1, none⟩ = some (.int .i64 n10_1) ∧ w.cell? ⟨k7, 2, none⟩ = some (.int .i64 n10_2)) ∧
  ∃ n13_0 : Int, ∃ n13_1 : Int, ∃ n13_2 : Int, (∀ w, D w → w.cell? ⟨k7, 0, none⟩ = some (.int .i64 n13_0) ∧ w.cell? ⟨k7, 1, none⟩ = some (.int .i64 n13_1) ∧ w.cell? ⟨k7, 2, none⟩ = some (.int .i64 n13_2)) ∧
  Calls Try.prog 33 #[.agg #[.int .i64 n13_0, .int .i64 n13_1, .int .i64 n13_2]] w5.drew fun e w6 => ∃ n14 : Int, e = .returned (.int .i64 n14) ∧
  D w6 ∧
  Calls Try.prog 31 #[.agg #[.int .i64 n10_0, .int .i64 n10_1, .int .i64 n10_2], .int .i64 n1, .int .i64 n2, .int .i64 n14] w6 fun e_1 w7 => ∃ b15 : Bool, e_1 = .returned (.bool b15) ∧
  D w7 ∧
  ((!b15) = true →
  R (.int .i64 0) w7) ∧
  ((!b15) = false →
  ∃ D_1 : World → Prop, D_1 w7.drew ∧
  ∃ n17_0 : Int, ∃ n17_1 : Int, ∃ n17_2 : Int, (∀ w, D_1 w → w.cell? ⟨k7, 0, none⟩ = some (.int .i64 n17_0) ∧ w.cell? ⟨k7, 1, none⟩ = some (.int .i64 n17_1) ∧ w.cell? ⟨k7, 2, none⟩ = some (.int .i64 n17_2)) ∧
  Calls Try.prog 32 #[.agg #[.int .i64 n17_0, .int .i64 n17_1, .int .i64 n17_2], .int .i64 n1] w7.drew fun e_2 w8 => ∃ n19 : Int, e_2 = .returned (.int .i64 n19) ∧
  D_1 w8 ∧
  ∃ n25 : Int, (∀ w, D_1 w → w.cell? ⟨k7, 0, none⟩ = some (.int .i64 n25)) ∧
  n25 ≠ 0 ∧
  R (.int .i64 (Int.tmod (IntKind.i64.wrap ((IntKind.i64.wrap (n19 + 1)) + n2)) n25)) w8)
theorem layout_Column_eq (n0_0 : Int) (n0_1 : Int) (n0_2 : Int) (n1 : Int) (n2 : Int) (w : World) (R : Value → World → Prop) : layout_Column n0_0 n0_1 n0_2 n1 n2 w R = fnP Try.prog Try.f11 .o [.agg #[.int .i64 n0_0, .int .i64 n0_1, .int .i64 n0_2], .int .i64 n1, .int .i64 n2] w R := by kernel_rfl
theorem layout_Column_calls {n0_0 : Int} {n0_1 : Int} {n0_2 : Int} {n1 : Int} {n2 : Int} {w : World} {R : Value → World → Prop} (h : layout_Column n0_0 n0_1 n0_2 n1 n2 w R) : Calls Try.prog 11 #[.agg #[.int .i64 n0_0, .int .i64 n0_1, .int .i64 n0_2], .int .i64 n1, .int .i64 n2] w fun e w1 => ∃ v, e = .returned v ∧ R v w1 := fnP_calls callable Try.func11 (layout_Column_eq n0_0 n0_1 n0_2 n1 n2 w R ▸ h)

/-- revetment/revetmentlaw07.shown -/
def revetmentlaw07_shown (w : World) (R : Value → World → Prop) : Prop :=
  Calls Try.prog 10 #[.agg #[.int .i64 4, .int .i64 1, .int .i64 5], .int .i64 0] w fun e w1 => ∃ n5_0 : Int, ∃ n5_1 : Int, e = .returned (.tuple #[.int .i64 n5_0, .int .i64 n5_1]) ∧
  ((n5_0 == 3) = true →
  ((n5_1 == 0) = true →
  Calls Try.prog 17 #[.agg #[.int .i64 4, .int .i64 1, .int .i64 5]] w1 fun e_1 w2 => ∃ n16 : Int, e_1 = .returned (.int .i64 n16) ∧
  R (.bool (n16 == 10)) w2) ∧
  ((n5_1 == 0) = false →
  R (.bool false) w1)) ∧
  ((n5_0 == 3) = false →
  R (.bool false) w1)
theorem revetmentlaw07_shown_eq (w : World) (R : Value → World → Prop) : revetmentlaw07_shown w R = fnP Try.prog Try.f12 .o [] w R := by kernel_rfl
theorem revetmentlaw07_shown_calls {w : World} {R : Value → World → Prop} (h : revetmentlaw07_shown w R) : Calls Try.prog 12 #[] w fun e w1 => ∃ v, e = .returned v ∧ R v w1 := fnP_calls callable Try.func12 (revetmentlaw07_shown_eq w R ▸ h)

/-- revetment/layout.Role -/
def layout_Role (n0_0 : Int) (n0_1 : Int) (n0_2 : Int) (n1 : Int) (n2 : Int) (w : World) (R : Value → World → Prop) : Prop :=
  Alloc #[.int .i64 n0_0, .int .i64 n0_1, .int .i64 n0_2] 23 w fun k3 w1 =>
  ∃ n9_0 : Int, ∃ n9_1 : Int, ∃ n9_2 : Int, (w1.cell? ⟨k3, 0, none⟩ = some (.int .i64 n9_0) ∧ w1.cell? ⟨k3, 1, none⟩ = some (.int .i64 n9_1) ∧ w1.cell? ⟨k3, 2, none⟩ = some (.int .i64 n9_2)) ∧
  Alloc #[.int .i64 0, .int .i64 0, .int .i64 0] 46 w1 fun k7 w2 =>
  St ⟨k7, 0, none⟩ (.int .i64 n9_0) w2 fun w3 =>
  St ⟨k7, 1, none⟩ (.int .i64 n9_1) w3 fun w4 =>
  St ⟨k7, 2, none⟩ (.int .i64 n9_2) w4 fun w5 =>
  ∃ n11_0 : Int, ∃ n11_1 : Int, ∃ n11_2 : Int, (w5.cell? ⟨k7, 0, none⟩ = some (.int .i64 n11_0) ∧ w5.cell? ⟨k7, 1, none⟩ = some (.int .i64 n11_1) ∧ w5.cell? ⟨k7, 2, none⟩ = some (.int .i64 n11_2)) ∧
  ∃ n16 : Int, w5.cell? ⟨k7, 0, none⟩ = some (.int .i64 n16) ∧
  Calls Try.prog 31 #[.agg #[.int .i64 n11_0, .int .i64 n11_1, .int .i64 n11_2], .int .i64 n1, .int .i64 n2, .int .i64 n16] w5 fun e w6 => ∃ b17 : Bool, e = .returned (.bool b17) ∧
  ((!b17) = true →
  R (.int .i64 0) w6) ∧
  ((!b17) = false →
  ∃ D : World → Prop, D w6.drew ∧
  ∃ n20_0 : Int, ∃ n20_1 : Int, ∃ n20_2 : Int, (∀ w, D w → w.cell? ⟨k7, 0, none⟩ = some (.int .i64 n20_0) ∧ w.cell? ⟨k7, 1, none⟩ = some (.int .i64 n20_1) ∧ w.cell? ⟨k7, 2, none⟩ = some (.int .i64 n20_2)) ∧
  Calls Try.prog 32 #[.agg #[.int .i64 n20_0, .int .i64 n20_1, .int .i64 n20_2], .int .i64 n1] w6.drew fun e_1 w7 => ∃ n22 : Int, e_1 = .returned (.int .i64 n22) ∧
  D w7 ∧
  ∃ n26 : Int, (∀ w, D w → w.cell? ⟨k7, 0, none⟩ = some (.int .i64 n26)) ∧
  ∃ n30 : Int, (∀ w, D w → w.cell? ⟨k7, 0, none⟩ = some (.int .i64 n30)) ∧
  n30 ≠ 0 ∧
  (((Int.tmod (IntKind.i64.wrap ((IntKind.i64.wrap (n2 - n22)) + n26)) n30) == 0) = true →
  ∃ n36 : Int, w7.cell? ⟨k7, 0, none⟩ = some (.int .i64 n36) ∧
  R (.int .i64 (IntKind.i64.wrap (n36 - 1))) w7) ∧
  (((Int.tmod (IntKind.i64.wrap ((IntKind.i64.wrap (n2 - n22)) + n26)) n30) == 0) = false →
  R (.int .i64 (IntKind.i64.wrap ((Int.tmod (IntKind.i64.wrap ((IntKind.i64.wrap (n2 - n22)) + n26)) n30) - 1))) w7))
theorem layout_Role_eq (n0_0 : Int) (n0_1 : Int) (n0_2 : Int) (n1 : Int) (n2 : Int) (w : World) (R : Value → World → Prop) : layout_Role n0_0 n0_1 n0_2 n1 n2 w R = fnP Try.prog Try.f13 .o [.agg #[.int .i64 n0_0, .int .i64 n0_1, .int .i64 n0_2], .int .i64 n1, .int .i64 n2] w R := by kernel_rfl
theorem layout_Role_calls {n0_0 : Int} {n0_1 : Int} {n0_2 : Int} {n1 : Int} {n2 : Int} {w : World} {R : Value → World → Prop} (h : layout_Role n0_0 n0_1 n0_2 n1 n2 w R) : Calls Try.prog 13 #[.agg #[.int .i64 n0_0, .int .i64 n0_1, .int .i64 n0_2], .int .i64 n1, .int .i64 n2] w fun e w1 => ∃ v, e = .returned v ∧ R v w1 := fnP_calls callable Try.func13 (layout_Role_eq n0_0 n0_1 n0_2 n1 n2 w R ▸ h)

/-- revetment/layout.Need -/
def layout_Need (n0_0 : Int) (n0_1 : Int) (n0_2 : Int) (w : World) (R : Value → World → Prop) : Prop :=
  Alloc #[.int .i64 n0_0, .int .i64 n0_1, .int .i64 n0_2] 23 w fun k1 w1 =>
  ∃ n4_0 : Int, ∃ n4_1 : Int, ∃ n4_2 : Int, (w1.cell? ⟨k1, 0, none⟩ = some (.int .i64 n4_0) ∧ w1.cell? ⟨k1, 1, none⟩ = some (.int .i64 n4_1) ∧ w1.cell? ⟨k1, 2, none⟩ = some (.int .i64 n4_2)) ∧
  Alloc #[.int .i64 0, .int .i64 0, .int .i64 0] 46 w1 fun k3 w2 =>
  St ⟨k3, 0, none⟩ (.int .i64 n4_0) w2 fun w3 =>
  St ⟨k3, 1, none⟩ (.int .i64 n4_1) w3 fun w4 =>
  St ⟨k3, 2, none⟩ (.int .i64 n4_2) w4 fun w5 =>
  ∃ n6_0 : Int, ∃ n6_1 : Int, ∃ n6_2 : Int, (w5.cell? ⟨k3, 0, none⟩ = some (.int .i64 n6_0) ∧ w5.cell? ⟨k3, 1, none⟩ = some (.int .i64 n6_1) ∧ w5.cell? ⟨k3, 2, none⟩ = some (.int .i64 n6_2)) ∧
  Calls Try.prog 34 #[.agg #[.int .i64 n6_0, .int .i64 n6_1, .int .i64 n6_2]] w5 fun e w6 => ∃ b7 : Bool, e = .returned (.bool b7) ∧
  (b7 = true →
  ∃ n10 : Int, w6.cell? ⟨k3, 2, none⟩ = some (.int .i64 n10) ∧
  ∃ n13 : Int, w6.cell? ⟨k3, 1, none⟩ = some (.int .i64 n13) ∧
  R (.int .i64 (IntKind.i64.wrap (4 + (IntKind.i64.wrap (n10 * n13))))) w6) ∧
  (b7 = false →
  R (.int .i64 0) w6)
theorem layout_Need_eq (n0_0 : Int) (n0_1 : Int) (n0_2 : Int) (w : World) (R : Value → World → Prop) : layout_Need n0_0 n0_1 n0_2 w R = fnP Try.prog Try.f14 .o [.agg #[.int .i64 n0_0, .int .i64 n0_1, .int .i64 n0_2]] w R := by kernel_rfl
theorem layout_Need_calls {n0_0 : Int} {n0_1 : Int} {n0_2 : Int} {w : World} {R : Value → World → Prop} (h : layout_Need n0_0 n0_1 n0_2 w R) : Calls Try.prog 14 #[.agg #[.int .i64 n0_0, .int .i64 n0_1, .int .i64 n0_2]] w fun e w1 => ∃ v, e = .returned v ∧ R v w1 := fnP_calls callable Try.func14 (layout_Need_eq n0_0 n0_1 n0_2 w R ▸ h)

/-- revetment/layout.Sector -/
def layout_Sector (n0_0 : Int) (n0_1 : Int) (n0_2 : Int) (n1 : Int) (n2 : Int) (w : World) (R : Value → World → Prop) : Prop :=
  Alloc #[.int .i64 n0_0, .int .i64 n0_1, .int .i64 n0_2] 23 w fun k3 w1 =>
  ∃ n8_0 : Int, ∃ n8_1 : Int, ∃ n8_2 : Int, (w1.cell? ⟨k3, 0, none⟩ = some (.int .i64 n8_0) ∧ w1.cell? ⟨k3, 1, none⟩ = some (.int .i64 n8_1) ∧ w1.cell? ⟨k3, 2, none⟩ = some (.int .i64 n8_2)) ∧
  Alloc #[.int .i64 0, .int .i64 0, .int .i64 0] 46 w1 fun k7 w2 =>
  St ⟨k7, 0, none⟩ (.int .i64 n8_0) w2 fun w3 =>
  St ⟨k7, 1, none⟩ (.int .i64 n8_1) w3 fun w4 =>
  St ⟨k7, 2, none⟩ (.int .i64 n8_2) w4 fun w5 =>
  ∃ n11_0 : Int, ∃ n11_1 : Int, ∃ n11_2 : Int, (w5.cell? ⟨k7, 0, none⟩ = some (.int .i64 n11_0) ∧ w5.cell? ⟨k7, 1, none⟩ = some (.int .i64 n11_1) ∧ w5.cell? ⟨k7, 2, none⟩ = some (.int .i64 n11_2)) ∧
  ∃ b13 : Bool, ∃ w6, (do eqGuard .eql 23 (.tmp 11) (.tmp 12) (.agg #[.int .i64 n11_0, .int .i64 n11_1, .int .i64 n11_2]) (.agg #[.int .i64 0, .int .i64 0, .int .i64 0]); binOp .eql 23 (.agg #[.int .i64 n11_0, .int .i64 n11_1, .int .i64 n11_2]) (.agg #[.int .i64 0, .int .i64 0, .int .i64 0]) : Sem Value).run Try.prog w5 = .ok (.bool b13) w6 ∧
  (b13 = true →
  R (.int .i64 0) w6) ∧
  (b13 = false →
  ∃ n15_0 : Int, ∃ n15_1 : Int, ∃ n15_2 : Int, (w6.cell? ⟨k7, 0, none⟩ = some (.int .i64 n15_0) ∧ w6.cell? ⟨k7, 1, none⟩ = some (.int .i64 n15_1) ∧ w6.cell? ⟨k7, 2, none⟩ = some (.int .i64 n15_2)) ∧
  ∃ n20 : Int, w6.cell? ⟨k7, 1, none⟩ = some (.int .i64 n20) ∧
  Calls Try.prog 31 #[.agg #[.int .i64 n15_0, .int .i64 n15_1, .int .i64 n15_2], .int .i64 n1, .int .i64 n2, .int .i64 n20] w6 fun e w7 => ∃ b21 : Bool, e = .returned (.bool b21) ∧
  ((!b21) = true →
  R (.int .i64 0) w7) ∧
  ((!b21) = false →
  ∃ n26 : Int, w7.cell? ⟨k7, 1, none⟩ = some (.int .i64 n26) ∧
  R (.int .i64 (IntKind.i64.wrap ((IntKind.i64.wrap (4 + (IntKind.i64.wrap (n26 * n1)))) + n2))) w7))
theorem layout_Sector_eq (n0_0 : Int) (n0_1 : Int) (n0_2 : Int) (n1 : Int) (n2 : Int) (w : World) (R : Value → World → Prop) : layout_Sector n0_0 n0_1 n0_2 n1 n2 w R = fnP Try.prog Try.f15 .o [.agg #[.int .i64 n0_0, .int .i64 n0_1, .int .i64 n0_2], .int .i64 n1, .int .i64 n2] w R := by kernel_rfl
theorem layout_Sector_calls {n0_0 : Int} {n0_1 : Int} {n0_2 : Int} {n1 : Int} {n2 : Int} {w : World} {R : Value → World → Prop} (h : layout_Sector n0_0 n0_1 n0_2 n1 n2 w R) : Calls Try.prog 15 #[.agg #[.int .i64 n0_0, .int .i64 n0_1, .int .i64 n0_2], .int .i64 n1, .int .i64 n2] w fun e w1 => ∃ v, e = .returned v ∧ R v w1 := fnP_calls callable Try.func15 (layout_Sector_eq n0_0 n0_1 n0_2 n1 n2 w R ▸ h)

/-- revetment/layout.Rows -/
def layout_Rows (n0 : Int) (n1 : Int) (w : World) (R : Value → World → Prop) : Prop :=
  ((decide (n1 < 1)) = true →
  R (.int .i64 0) w) ∧
  ((decide (n1 < 1)) = false →
  ((decide (n1 > 4)) = true →
  R (.int .i64 0) w) ∧
  ((decide (n1 > 4)) = false →
  ∃ n12 : Int, ∃ w1, (builtin .max #[3, 3] 3 #[false, true] #[.int .i64 n0, .int .i64 4]).run Try.prog w = .ok (.value (.int .i64 n12)) w1 ∧
  ∃ n16 : Int, ∃ w2, (builtin .min #[3, 3] 3 #[false, false] #[.int .i64 (IntKind.i64.wrap (n12 - 4)), .int .i64 (IntKind.i64.wrap (256 * n1))]).run Try.prog w1 = .ok (.value (.int .i64 n16)) w2 ∧
  n1 ≠ 0 ∧
  R (.int .i64 (IntKind.i64.wrap (Int.tdiv n16 n1))) w2))
theorem layout_Rows_eq (n0 : Int) (n1 : Int) (w : World) (R : Value → World → Prop) : layout_Rows n0 n1 w R = fnP Try.prog Try.f16 .o [.int .i64 n0, .int .i64 n1] w R := by kernel_rfl
theorem layout_Rows_calls {n0 : Int} {n1 : Int} {w : World} {R : Value → World → Prop} (h : layout_Rows n0 n1 w R) : Calls Try.prog 16 #[.int .i64 n0, .int .i64 n1] w fun e w1 => ∃ v, e = .returned v ∧ R v w1 := fnP_calls callable Try.func16 (layout_Rows_eq n0 n1 w R ▸ h)

/-- revetment/layout.Size -/
def layout_Size (n0_0 : Int) (n0_1 : Int) (n0_2 : Int) (w : World) (R : Value → World → Prop) : Prop :=
  Alloc #[.int .i64 n0_0, .int .i64 n0_1, .int .i64 n0_2] 23 w fun k1 w1 =>
  ∃ n4_0 : Int, ∃ n4_1 : Int, ∃ n4_2 : Int, (w1.cell? ⟨k1, 0, none⟩ = some (.int .i64 n4_0) ∧ w1.cell? ⟨k1, 1, none⟩ = some (.int .i64 n4_1) ∧ w1.cell? ⟨k1, 2, none⟩ = some (.int .i64 n4_2)) ∧
  Alloc #[.int .i64 0, .int .i64 0, .int .i64 0] 46 w1 fun k3 w2 =>
  St ⟨k3, 0, none⟩ (.int .i64 n4_0) w2 fun w3 =>
  St ⟨k3, 1, none⟩ (.int .i64 n4_1) w3 fun w4 =>
  St ⟨k3, 2, none⟩ (.int .i64 n4_2) w4 fun w5 =>
  ∃ n6_0 : Int, ∃ n6_1 : Int, ∃ n6_2 : Int, (w5.cell? ⟨k3, 0, none⟩ = some (.int .i64 n6_0) ∧ w5.cell? ⟨k3, 1, none⟩ = some (.int .i64 n6_1) ∧ w5.cell? ⟨k3, 2, none⟩ = some (.int .i64 n6_2)) ∧
  Calls Try.prog 34 #[.agg #[.int .i64 n6_0, .int .i64 n6_1, .int .i64 n6_2]] w5 fun e w6 => ∃ b7 : Bool, e = .returned (.bool b7) ∧
  ((!b7) = true →
  R (.int .i64 0) w6) ∧
  ((!b7) = false →
  ∃ D : World → Prop, D w6.drew ∧
  ∃ n11 : Int, (∀ w, D w → w.cell? ⟨k3, 2, none⟩ = some (.int .i64 n11)) ∧
  ∃ n14 : Int, (∀ w, D w → w.cell? ⟨k3, 1, none⟩ = some (.int .i64 n14)) ∧
  ∃ n16_0 : Int, ∃ n16_1 : Int, ∃ n16_2 : Int, (∀ w, D w → w.cell? ⟨k3, 0, none⟩ = some (.int .i64 n16_0) ∧ w.cell? ⟨k3, 1, none⟩ = some (.int .i64 n16_1) ∧ w.cell? ⟨k3, 2, none⟩ = some (.int .i64 n16_2)) ∧
  Calls Try.prog 33 #[.agg #[.int .i64 n16_0, .int .i64 n16_1, .int .i64 n16_2]] w6.drew fun e_1 w7 => ∃ n17 : Int, e_1 = .returned (.int .i64 n17) ∧
  D w7 ∧
  R (.int .i64 (IntKind.i64.wrap ((IntKind.i64.wrap (n11 * n14)) * n17))) w7)
theorem layout_Size_eq (n0_0 : Int) (n0_1 : Int) (n0_2 : Int) (w : World) (R : Value → World → Prop) : layout_Size n0_0 n0_1 n0_2 w R = fnP Try.prog Try.f17 .o [.agg #[.int .i64 n0_0, .int .i64 n0_1, .int .i64 n0_2]] w R := by kernel_rfl
theorem layout_Size_calls {n0_0 : Int} {n0_1 : Int} {n0_2 : Int} {w : World} {R : Value → World → Prop} (h : layout_Size n0_0 n0_1 n0_2 w R) : Calls Try.prog 17 #[.agg #[.int .i64 n0_0, .int .i64 n0_1, .int .i64 n0_2]] w fun e w1 => ∃ v, e = .returned v ∧ R v w1 := fnP_calls callable Try.func17 (layout_Size_eq n0_0 n0_1 n0_2 w R ▸ h)

/-- revetment/layout.Find -/
def layout_Find (n0_0 : Int) (n0_1 : Int) (n0_2 : Int) (n1 : Int) (w : World) (R : Value → World → Prop) : Prop :=
  Alloc #[.int .i64 n0_0, .int .i64 n0_1, .int .i64 n0_2] 23 w fun k2 w1 =>
  ∃ n9_0 : Int, ∃ n9_1 : Int, ∃ n9_2 : Int, (w1.cell? ⟨k2, 0, none⟩ = some (.int .i64 n9_0) ∧ w1.cell? ⟨k2, 1, none⟩ = some (.int .i64 n9_1) ∧ w1.cell? ⟨k2, 2, none⟩ = some (.int .i64 n9_2)) ∧
  Alloc #[.int .i64 0, .int .i64 0, .int .i64 0] 46 w1 fun k8 w2 =>
  St ⟨k8, 0, none⟩ (.int .i64 n9_0) w2 fun w3 =>
  St ⟨k8, 1, none⟩ (.int .i64 n9_1) w3 fun w4 =>
  St ⟨k8, 2, none⟩ (.int .i64 n9_2) w4 fun w5 =>
  Join (fun vs w6 => ∃ n4 : Int, ∃ n5 : Int, ∃ n6 : Int, ∃ n7 : Int, vs = [.int .i64 n4, .int .i64 n5, .int .i64 n6, .int .i64 n7] ∧
  R (.tuple #[.int .i64 n4, .int .i64 n5, .int .i64 n6, .int .i64 n7]) w6) fun J =>
  ∃ n30_0 : Int, ∃ n30_1 : Int, ∃ n30_2 : Int, (w5.cell? ⟨k8, 0, none⟩ = some (.int .i64 n30_0) ∧ w5.cell? ⟨k8, 1, none⟩ = some (.int .i64 n30_1) ∧ w5.cell? ⟨k8, 2, none⟩ = some (.int .i64 n30_2)) ∧
  Calls Try.prog 34 #[.agg #[.int .i64 n30_0, .int .i64 n30_1, .int .i64 n30_2]] w5 fun e w7 => ∃ b31 : Bool, e = .returned (.bool b31) ∧
  ((!b31) = true →
  J [.int .i64 0, .int .i64 0, .int .i64 0, .int .i64 1] w7) ∧
  ((!b31) = false →
  ((decide (n1 < 0)) = true →
  J [.int .i64 0, .int .i64 0, .int .i64 0, .int .i64 70] w7) ∧
  ((decide (n1 < 0)) = false →
  ∃ n38_0 : Int, ∃ n38_1 : Int, ∃ n38_2 : Int, (w7.cell? ⟨k2, 0, none⟩ = some (.int .i64 n38_0) ∧ w7.cell? ⟨k2, 1, none⟩ = some (.int .i64 n38_1) ∧ w7.cell? ⟨k2, 2, none⟩ = some (.int .i64 n38_2)) ∧
  Calls Try.prog 17 #[.agg #[.int .i64 n38_0, .int .i64 n38_1, .int .i64 n38_2]] w7 fun e_1 w8 => ∃ n39 : Int, e_1 = .returned (.int .i64 n39) ∧
  ((decide (n1 ≥ n39)) = true →
  J [.int .i64 0, .int .i64 0, .int .i64 0, .int .i64 70] w8) ∧
  ((decide (n1 ≥ n39)) = false →
  ∃ n14 : Int, w8.cell? ⟨k8, 1, none⟩ = some (.int .i64 n14) ∧
  n14 ≠ 0 ∧
  ∃ n19 : Int, w8.cell? ⟨k8, 1, none⟩ = some (.int .i64 n19) ∧
  n19 ≠ 0 ∧
  ∃ D : World → Prop, D w8.drew ∧
  ∃ n22_0 : Int, ∃ n22_1 : Int, ∃ n22_2 : Int, (∀ w, D w → w.cell? ⟨k8, 0, none⟩ = some (.int .i64 n22_0) ∧ w.cell? ⟨k8, 1, none⟩ = some (.int .i64 n22_1) ∧ w.cell? ⟨k8, 2, none⟩ = some (.int .i64 n22_2)) ∧
  Calls Try.prog 33 #[.agg #[.int .i64 n22_0, .int .i64 n22_1, .int .i64 n22_2]] w8.drew fun e_2 w9 => ∃ n23 : Int, e_2 = .returned (.int .i64 n23) ∧
  D w9 ∧
  n23 ≠ 0 ∧
  ∃ n26_0 : Int, ∃ n26_1 : Int, ∃ n26_2 : Int, (∀ w, D w → w.cell? ⟨k8, 0, none⟩ = some (.int .i64 n26_0) ∧ w.cell? ⟨k8, 1, none⟩ = some (.int .i64 n26_1) ∧ w.cell? ⟨k8, 2, none⟩ = some (.int .i64 n26_2)) ∧
  Calls Try.prog 33 #[.agg #[.int .i64 n26_0, .int .i64 n26_1, .int .i64 n26_2]] w9 fun e_3 w10 => ∃ n27 : Int, e_3 = .returned (.int .i64 n27) ∧
  D w10 ∧
  n27 ≠ 0 ∧
  J [.int .i64 (IntKind.i64.wrap (Int.tdiv (IntKind.i64.wrap (Int.tdiv n1 n19)) n23)), .int .i64 (Int.tmod (IntKind.i64.wrap (Int.tdiv n1 n19)) n27), .int .i64 (Int.tmod n1 n14), .int .i64 0] w10)))
theorem layout_Find_eq (n0_0 : Int) (n0_1 : Int) (n0_2 : Int) (n1 : Int) (w : World) (R : Value → World → Prop) : layout_Find n0_0 n0_1 n0_2 n1 w R = fnP Try.prog Try.f18 (.s .o (.s .o (.j [(4, .one (.int .i64)), (5, .one (.int .i64)), (6, .one (.int .i64)), (7, .one (.int .i64))] .o .o))) [.agg #[.int .i64 n0_0, .int .i64 n0_1, .int .i64 n0_2], .int .i64 n1] w R := by kernel_rfl
theorem layout_Find_calls {n0_0 : Int} {n0_1 : Int} {n0_2 : Int} {n1 : Int} {w : World} {R : Value → World → Prop} (h : layout_Find n0_0 n0_1 n0_2 n1 w R) : Calls Try.prog 18 #[.agg #[.int .i64 n0_0, .int .i64 n0_1, .int .i64 n0_2], .int .i64 n1] w fun e w1 => ∃ v, e = .returned v ∧ R v w1 := fnP_calls callable Try.func18 (layout_Find_eq n0_0 n0_1 n0_2 n1 w R ▸ h)

/-- revetment/layout.Back -/
def layout_Back (n0_0 : Int) (n0_1 : Int) (n0_2 : Int) (n1 : Int) (n2 : Int) (n3 : Int) (w : World) (R : Value → World → Prop) : Prop :=
  Alloc #[.int .i64 n0_0, .int .i64 n0_1, .int .i64 n0_2] 23 w fun k4 w1 =>
  ∃ n11_0 : Int, ∃ n11_1 : Int, ∃ n11_2 : Int, (w1.cell? ⟨k4, 0, none⟩ = some (.int .i64 n11_0) ∧ w1.cell? ⟨k4, 1, none⟩ = some (.int .i64 n11_1) ∧ w1.cell? ⟨k4, 2, none⟩ = some (.int .i64 n11_2)) ∧
  Alloc #[.int .i64 0, .int .i64 0, .int .i64 0] 46 w1 fun k10 w2 =>
  St ⟨k10, 0, none⟩ (.int .i64 n11_0) w2 fun w3 =>
  St ⟨k10, 1, none⟩ (.int .i64 n11_1) w3 fun w4 =>
  St ⟨k10, 2, none⟩ (.int .i64 n11_2) w4 fun w5 =>
  ∃ n14_0 : Int, ∃ n14_1 : Int, ∃ n14_2 : Int, (w5.cell? ⟨k10, 0, none⟩ = some (.int .i64 n14_0) ∧ w5.cell? ⟨k10, 1, none⟩ = some (.int .i64 n14_1) ∧ w5.cell? ⟨k10, 2, none⟩ = some (.int .i64 n14_2)) ∧
  Calls Try.prog 34 #[.agg #[.int .i64 n14_0, .int .i64 n14_1, .int .i64 n14_2]] w5 fun e w6 => ∃ b15 : Bool, e = .returned (.bool b15) ∧
  ((!b15) = true →
  R (.tuple #[.int .i64 0, .int .i64 1]) w6) ∧
  ((!b15) = false →
  ∃ D : World → Prop, D w6.drew ∧
  ∃ n18_0 : Int, ∃ n18_1 : Int, ∃ n18_2 : Int, (∀ w, D w → w.cell? ⟨k10, 0, none⟩ = some (.int .i64 n18_0) ∧ w.cell? ⟨k10, 1, none⟩ = some (.int .i64 n18_1) ∧ w.cell? ⟨k10, 2, none⟩ = some (.int .i64 n18_2)) ∧
  ∃ n21_0 : Int, ∃ n21_1 : Int, ∃ n21_2 : Int, (∀ w, D w → w.cell? ⟨k10, 0, none⟩ = some (.int .i64 n21_0) ∧ w.cell? ⟨k10, 1, none⟩ = some (.int .i64 n21_1) ∧ w.cell? ⟨k10, 2, none⟩ = some (.int .i64 n21_2)) ∧
  Calls Try.prog 33 #[.agg #[.int .i64 n21_0, .int .i64 n21_1, .int .i64 n21_2]] w6.drew fun e_1 w7 => ∃ n22 : Int, e_1 = .returned (.int .i64 n22) ∧
  D w7 ∧
  Calls Try.prog 31 #[.agg #[.int .i64 n18_0, .int .i64 n18_1, .int .i64 n18_2], .int .i64 n1, .int .i64 n2, .int .i64 n22] w7 fun e_2 w8 => ∃ b23 : Bool, e_2 = .returned (.bool b23) ∧
  D w8 ∧
  ((!b23) = true →
  R (.tuple #[.int .i64 0, .int .i64 70]) w8) ∧
  ((!b23) = false →
  ∃ n26_0 : Int, ∃ n26_1 : Int, ∃ n26_2 : Int, (∀ w, D w → w.cell? ⟨k10, 0, none⟩ = some (.int .i64 n26_0) ∧ w.cell? ⟨k10, 1, none⟩ = some (.int .i64 n26_1) ∧ w.cell? ⟨k10, 2, none⟩ = some (.int .i64 n26_2)) ∧
  ∃ n31 : Int, (∀ w, D w → w.cell? ⟨k10, 1, none⟩ = some (.int .i64 n31)) ∧
  Calls Try.prog 31 #[.agg #[.int .i64 n26_0, .int .i64 n26_1, .int .i64 n26_2], .int .i64 n1, .int .i64 n3, .int .i64 n31] w8 fun e_3 w9 => ∃ b32 : Bool, e_3 = .returned (.bool b32) ∧
  D w9 ∧
  ((!b32) = true →
  R (.tuple #[.int .i64 0, .int .i64 70]) w9) ∧
  ((!b32) = false →
  ∃ D_1 : World → Prop, D_1 w9.drew ∧
  ∃ n38 : Int, (∀ w, D_1 w → w.cell? ⟨k10, 1, none⟩ = some (.int .i64 n38)) ∧
  ∃ n40_0 : Int, ∃ n40_1 : Int, ∃ n40_2 : Int, (∀ w, D_1 w → w.cell? ⟨k10, 0, none⟩ = some (.int .i64 n40_0) ∧ w.cell? ⟨k10, 1, none⟩ = some (.int .i64 n40_1) ∧ w.cell? ⟨k10, 2, none⟩ = some (.int .i64 n40_2)) ∧
  Calls Try.prog 33 #[.agg #[.int .i64 n40_0, .int .i64 n40_1, .int .i64 n40_2]] w9.drew fun e_4 w10 => ∃ n41 : Int, e_4 = .returned (.int .i64 n41) ∧
  D_1 w10 ∧
  R (.tuple #[.int .i64 (IntKind.i64.wrap (n3 + (IntKind.i64.wrap (n38 * (IntKind.i64.wrap (n2 + (IntKind.i64.wrap (n41 * n1)))))))), .int .i64 0]) w10)))
theorem layout_Back_eq (n0_0 : Int) (n0_1 : Int) (n0_2 : Int) (n1 : Int) (n2 : Int) (n3 : Int) (w : World) (R : Value → World → Prop) : layout_Back n0_0 n0_1 n0_2 n1 n2 n3 w R = fnP Try.prog Try.f19 .o [.agg #[.int .i64 n0_0, .int .i64 n0_1, .int .i64 n0_2], .int .i64 n1, .int .i64 n2, .int .i64 n3] w R := by kernel_rfl
theorem layout_Back_calls {n0_0 : Int} {n0_1 : Int} {n0_2 : Int} {n1 : Int} {n2 : Int} {n3 : Int} {w : World} {R : Value → World → Prop} (h : layout_Back n0_0 n0_1 n0_2 n1 n2 n3 w R) : Calls Try.prog 19 #[.agg #[.int .i64 n0_0, .int .i64 n0_1, .int .i64 n0_2], .int .i64 n1, .int .i64 n2, .int .i64 n3] w fun e w1 => ∃ v, e = .returned v ∧ R v w1 := fnP_calls callable Try.func19 (layout_Back_eq n0_0 n0_1 n0_2 n1 n2 n3 w R ▸ h)

/-- revetment/revetmentref07.Find -/
def revetmentref07_Find (n0_0 : Int) (n0_1 : Int) (n0_2 : Int) (n1 : Int) (w : World) (R : Value → World → Prop) : Prop :=
  Alloc #[.int .i64 n0_0, .int .i64 n0_1, .int .i64 n0_2] 23 w fun k2 w1 =>
  ∃ n9_0 : Int, ∃ n9_1 : Int, ∃ n9_2 : Int, (w1.cell? ⟨k2, 0, none⟩ = some (.int .i64 n9_0) ∧ w1.cell? ⟨k2, 1, none⟩ = some (.int .i64 n9_1) ∧ w1.cell? ⟨k2, 2, none⟩ = some (.int .i64 n9_2)) ∧
  Calls Try.prog 24 #[.agg #[.int .i64 n9_0, .int .i64 n9_1, .int .i64 n9_2]] w1 fun e w2 => ∃ n10 : Int, e = .returned (.int .i64 n10) ∧
  ((n10 != 0) = true →
  R (.tuple #[.int .i64 0, .int .i64 0, .int .i64 0, .int .i64 1]) w2) ∧
  ((n10 != 0) = false →
  ((decide (n1 < 0)) = true →
  R (.tuple #[.int .i64 0, .int .i64 0, .int .i64 0, .int .i64 70]) w2) ∧
  ((decide (n1 < 0)) = false →
  ∃ n16_0 : Int, ∃ n16_1 : Int, ∃ n16_2 : Int, (w2.cell? ⟨k2, 0, none⟩ = some (.int .i64 n16_0) ∧ w2.cell? ⟨k2, 1, none⟩ = some (.int .i64 n16_1) ∧ w2.cell? ⟨k2, 2, none⟩ = some (.int .i64 n16_2)) ∧
  Calls Try.prog 25 #[.agg #[.int .i64 n16_0, .int .i64 n16_1, .int .i64 n16_2]] w2 fun e_1 w3 => ∃ n17 : Int, e_1 = .returned (.int .i64 n17) ∧
  ((decide (n1 ≥ n17)) = true →
  R (.tuple #[.int .i64 0, .int .i64 0, .int .i64 0, .int .i64 70]) w3) ∧
  ((decide (n1 ≥ n17)) = false →
  ∃ n22 : Int, w3.cell? ⟨k2, 1, none⟩ = some (.int .i64 n22) ∧
  n22 ≠ 0 ∧
  ∃ D : World → Prop, D w3.drew ∧
  ∃ n26 : Int, (∀ w, D w → w.cell? ⟨k2, 0, none⟩ = some (.int .i64 n26)) ∧
  (IntKind.i64.wrap (n26 - 2)) ≠ 0 ∧
  ∃ n31 : Int, (∀ w, D w → w.cell? ⟨k2, 0, none⟩ = some (.int .i64 n31)) ∧
  (IntKind.i64.wrap (n31 - 2)) ≠ 0 ∧
  ∃ n36 : Int, (∀ w, D w → w.cell? ⟨k2, 1, none⟩ = some (.int .i64 n36)) ∧
  n36 ≠ 0 ∧
  R (.tuple #[.int .i64 (IntKind.i64.wrap (Int.tdiv (IntKind.i64.wrap (Int.tdiv n1 n22)) (IntKind.i64.wrap (n26 - 2)))), .int .i64 (Int.tmod (IntKind.i64.wrap (Int.tdiv n1 n22)) (IntKind.i64.wrap (n31 - 2))), .int .i64 (Int.tmod n1 n36), .int .i64 0]) w3.drew)))
theorem revetmentref07_Find_eq (n0_0 : Int) (n0_1 : Int) (n0_2 : Int) (n1 : Int) (w : World) (R : Value → World → Prop) : revetmentref07_Find n0_0 n0_1 n0_2 n1 w R = fnP Try.prog Try.f20 .o [.agg #[.int .i64 n0_0, .int .i64 n0_1, .int .i64 n0_2], .int .i64 n1] w R := by kernel_rfl
theorem revetmentref07_Find_calls {n0_0 : Int} {n0_1 : Int} {n0_2 : Int} {n1 : Int} {w : World} {R : Value → World → Prop} (h : revetmentref07_Find n0_0 n0_1 n0_2 n1 w R) : Calls Try.prog 20 #[.agg #[.int .i64 n0_0, .int .i64 n0_1, .int .i64 n0_2], .int .i64 n1] w fun e w1 => ∃ v, e = .returned v ∧ R v w1 := fnP_calls callable Try.func20 (revetmentref07_Find_eq n0_0 n0_1 n0_2 n1 w R ▸ h)

/-- revetment/revetmentref07.Parity -/
def revetmentref07_Parity (n0_0 : Int) (n0_1 : Int) (n0_2 : Int) (n1 : Int) (w : World) (R : Value → World → Prop) : Prop :=
  Alloc #[.int .i64 n0_0, .int .i64 n0_1, .int .i64 n0_2] 23 w fun k2 w1 =>
  ∃ n7_0 : Int, ∃ n7_1 : Int, ∃ n7_2 : Int, (w1.cell? ⟨k2, 0, none⟩ = some (.int .i64 n7_0) ∧ w1.cell? ⟨k2, 1, none⟩ = some (.int .i64 n7_1) ∧ w1.cell? ⟨k2, 2, none⟩ = some (.int .i64 n7_2)) ∧
  Calls Try.prog 35 #[.agg #[.int .i64 n7_0, .int .i64 n7_1, .int .i64 n7_2], .int .i64 n1, .int .i64 0, .int .i64 1] w1 fun e w2 => ∃ b9 : Bool, e = .returned (.bool b9) ∧
  ((!b9) = true →
  R (.tuple #[.int .i64 0, .int .i64 0]) w2) ∧
  ((!b9) = false →
  ∃ D : World → Prop, D w2.drew ∧
  ∃ n12 : Int, (∀ w, D w → w.cell? ⟨k2, 0, none⟩ = some (.int .i64 n12)) ∧
  ∃ n16 : Int, (∀ w, D w → w.cell? ⟨k2, 0, none⟩ = some (.int .i64 n16)) ∧
  n16 ≠ 0 ∧
  ∃ D_1 : World → Prop, D_1 w2.drew.drew ∧
  ∃ n23 : Int, (∀ w, D_1 w → w.cell? ⟨k2, 0, none⟩ = some (.int .i64 n23)) ∧
  n23 ≠ 0 ∧
  R (.tuple #[.int .i64 (IntKind.i64.wrap ((IntKind.i64.wrap (n12 - 1)) - (Int.tmod n1 n16))), .int .i64 (Int.tmod (IntKind.i64.wrap ((IntKind.i64.wrap ((IntKind.i64.wrap (n12 - 1)) - (Int.tmod n1 n16))) + 1)) n23)]) w2.drew.drew)
theorem revetmentref07_Parity_eq (n0_0 : Int) (n0_1 : Int) (n0_2 : Int) (n1 : Int) (w : World) (R : Value → World → Prop) : revetmentref07_Parity n0_0 n0_1 n0_2 n1 w R = fnP Try.prog Try.f21 .o [.agg #[.int .i64 n0_0, .int .i64 n0_1, .int .i64 n0_2], .int .i64 n1] w R := by kernel_rfl
theorem revetmentref07_Parity_calls {n0_0 : Int} {n0_1 : Int} {n0_2 : Int} {n1 : Int} {w : World} {R : Value → World → Prop} (h : revetmentref07_Parity n0_0 n0_1 n0_2 n1 w R) : Calls Try.prog 21 #[.agg #[.int .i64 n0_0, .int .i64 n0_1, .int .i64 n0_2], .int .i64 n1] w fun e w1 => ∃ v, e = .returned v ∧ R v w1 := fnP_calls callable Try.func21 (revetmentref07_Parity_eq n0_0 n0_1 n0_2 n1 w R ▸ h)

/-- revetment/revetmentref07.Back -/
def revetmentref07_Back (n0_0 : Int) (n0_1 : Int) (n0_2 : Int) (n1 : Int) (n2 : Int) (n3 : Int) (w : World) (R : Value → World → Prop) : Prop :=
  Alloc #[.int .i64 n0_0, .int .i64 n0_1, .int .i64 n0_2] 23 w fun k4 w1 =>
  ∃ n10_0 : Int, ∃ n10_1 : Int, ∃ n10_2 : Int, (w1.cell? ⟨k4, 0, none⟩ = some (.int .i64 n10_0) ∧ w1.cell? ⟨k4, 1, none⟩ = some (.int .i64 n10_1) ∧ w1.cell? ⟨k4, 2, none⟩ = some (.int .i64 n10_2)) ∧
  Calls Try.prog 24 #[.agg #[.int .i64 n10_0, .int .i64 n10_1, .int .i64 n10_2]] w1 fun e w2 => ∃ n11 : Int, e = .returned (.int .i64 n11) ∧
  ((n11 != 0) = true →
  R (.tuple #[.int .i64 0, .int .i64 1]) w2) ∧
  ((n11 != 0) = false →
  ∃ n13_0 : Int, ∃ n13_1 : Int, ∃ n13_2 : Int, (w2.cell? ⟨k4, 0, none⟩ = some (.int .i64 n13_0) ∧ w2.cell? ⟨k4, 1, none⟩ = some (.int .i64 n13_1) ∧ w2.cell? ⟨k4, 2, none⟩ = some (.int .i64 n13_2)) ∧
  ∃ n17 : Int, w2.cell? ⟨k4, 0, none⟩ = some (.int .i64 n17) ∧
  Calls Try.prog 35 #[.agg #[.int .i64 n13_0, .int .i64 n13_1, .int .i64 n13_2], .int .i64 n1, .int .i64 n2, .int .i64 (IntKind.i64.wrap (n17 - 2))] w2 fun e_1 w3 => ∃ b19 : Bool, e_1 = .returned (.bool b19) ∧
  ((!b19) = true →
  R (.tuple #[.int .i64 0, .int .i64 70]) w3) ∧
  ((!b19) = false →
  ((decide (n3 < 0)) = true →
  R (.tuple #[.int .i64 0, .int .i64 70]) w3) ∧
  ((decide (n3 < 0)) = false →
  ∃ n28 : Int, w3.cell? ⟨k4, 1, none⟩ = some (.int .i64 n28) ∧
  ((decide (n3 ≥ n28)) = true →
  R (.tuple #[.int .i64 0, .int .i64 70]) w3) ∧
  ((decide (n3 ≥ n28)) = false →
  ∃ n33 : Int, w3.cell? ⟨k4, 0, none⟩ = some (.int .i64 n33) ∧
  ∃ n39 : Int, w3.cell? ⟨k4, 1, none⟩ = some (.int .i64 n39) ∧
  R (.tuple #[.int .i64 (IntKind.i64.wrap ((IntKind.i64.wrap ((IntKind.i64.wrap ((IntKind.i64.wrap (n1 * (IntKind.i64.wrap (n33 - 2)))) + n2)) * n39)) + n3)), .int .i64 0]) w3))))
theorem revetmentref07_Back_eq (n0_0 : Int) (n0_1 : Int) (n0_2 : Int) (n1 : Int) (n2 : Int) (n3 : Int) (w : World) (R : Value → World → Prop) : revetmentref07_Back n0_0 n0_1 n0_2 n1 n2 n3 w R = fnP Try.prog Try.f22 .o [.agg #[.int .i64 n0_0, .int .i64 n0_1, .int .i64 n0_2], .int .i64 n1, .int .i64 n2, .int .i64 n3] w R := by kernel_rfl
theorem revetmentref07_Back_calls {n0_0 : Int} {n0_1 : Int} {n0_2 : Int} {n1 : Int} {n2 : Int} {n3 : Int} {w : World} {R : Value → World → Prop} (h : revetmentref07_Back n0_0 n0_1 n0_2 n1 n2 n3 w R) : Calls Try.prog 22 #[.agg #[.int .i64 n0_0, .int .i64 n0_1, .int .i64 n0_2], .int .i64 n1, .int .i64 n2, .int .i64 n3] w fun e w1 => ∃ v, e = .returned v ∧ R v w1 := fnP_calls callable Try.func22 (revetmentref07_Back_eq n0_0 n0_1 n0_2 n1 n2 n3 w R ▸ h)

/-- revetment/layout.Check -/
def layout_Check (n0_0 : Int) (n0_1 : Int) (n0_2 : Int) (w : World) (R : Value → World → Prop) : Prop :=
  Alloc #[.int .i64 n0_0, .int .i64 n0_1, .int .i64 n0_2] 23 w fun k1 w1 =>
  ∃ n6 : Int, w1.cell? ⟨k1, 0, none⟩ = some (.int .i64 n6) ∧
  ∃ n9 : Int, w1.cell? ⟨k1, 1, none⟩ = some (.int .i64 n9) ∧
  ∃ n12 : Int, w1.cell? ⟨k1, 2, none⟩ = some (.int .i64 n12) ∧
  LoopP (fun I => I [.int .i64 0] w1) fun K vs w2 => ∃ n15 : Int, vs = [.int .i64 n15] ∧
  ((decide (n15 < 3)) = true →
  ∃ n17_0 : Int, ∃ n17_1 : Int, ∃ n17_2 : Int, ∃ w3, (Instr.index 52 (.agg #[.int .i64 4, .int .i64 n6, .int .i64 10, .int .i64 1, .int .i64 n9, .int .i64 4, .int .i64 1, .int .i64 n12, .int .i64 256]) (.int .i64 n15)).run Try.prog w2 = .ok (.agg #[.int .i64 n17_0, .int .i64 n17_1, .int .i64 n17_2]) w3 ∧
  Alloc #[.int .i64 0, .int .i64 0, .int .i64 0] 51 w3 fun k4 w4 =>
  St ⟨k4, 0, none⟩ (.int .i64 n17_0) w4 fun w5 =>
  St ⟨k4, 1, none⟩ (.int .i64 n17_1) w5 fun w6 =>
  St ⟨k4, 2, none⟩ (.int .i64 n17_2) w6 fun w7 =>
  (0 : Int) ≤ 1 ∧ 1 < (3 : Int) ∧
  ∃ n19 : Int, w7.cell? ⟨k4, 1, none⟩ = some (.int .i64 n19) ∧
  (0 : Int) ≤ 0 ∧ 0 < (3 : Int) ∧
  ∃ n21 : Int, w7.cell? ⟨k4, 0, none⟩ = some (.int .i64 n21) ∧
  ((decide (n19 < n21)) = true →
  R (.int .i64 1) w7) ∧
  ((decide (n19 < n21)) = false →
  (0 : Int) ≤ 1 ∧ 1 < (3 : Int) ∧
  ∃ n25 : Int, w7.cell? ⟨k4, 1, none⟩ = some (.int .i64 n25) ∧
  (0 : Int) ≤ 2 ∧ 2 < (3 : Int) ∧
  ∃ n27 : Int, w7.cell? ⟨k4, 2, none⟩ = some (.int .i64 n27) ∧
  ((decide (n25 > n27)) = true →
  R (.int .i64 1) w7) ∧
  ((decide (n25 > n27)) = false →
  K [.int .i64 (IntKind.i64.wrap (n15 + 1))] w7))) ∧
  ((decide (n15 < 3)) = false →
  R (.int .i64 0) w2)
theorem layout_Check_eq (n0_0 : Int) (n0_1 : Int) (n0_2 : Int) (w : World) (R : Value → World → Prop) : layout_Check n0_0 n0_1 n0_2 w R = fnP Try.prog Try.f23 (.s .o (.s (.s .o (.b (.l [(15, .one (.int .i64))] .o))) .o)) [.agg #[.int .i64 n0_0, .int .i64 n0_1, .int .i64 n0_2]] w R := by kernel_rfl
theorem layout_Check_calls {n0_0 : Int} {n0_1 : Int} {n0_2 : Int} {w : World} {R : Value → World → Prop} (h : layout_Check n0_0 n0_1 n0_2 w R) : Calls Try.prog 23 #[.agg #[.int .i64 n0_0, .int .i64 n0_1, .int .i64 n0_2]] w fun e w1 => ∃ v, e = .returned v ∧ R v w1 := fnP_calls callable Try.func23 (layout_Check_eq n0_0 n0_1 n0_2 w R ▸ h)

/-- revetment/revetmentref07.Check -/
def revetmentref07_Check (n0_0 : Int) (n0_1 : Int) (n0_2 : Int) (w : World) (R : Value → World → Prop) : Prop :=
  Alloc #[.int .i64 n0_0, .int .i64 n0_1, .int .i64 n0_2] 23 w fun k1 w1 =>
  ∃ n4 : Int, w1.cell? ⟨k1, 0, none⟩ = some (.int .i64 n4) ∧
  ((decide (n4 < 4)) = true →
  R (.int .i64 1) w1) ∧
  ((decide (n4 < 4)) = false →
  ∃ n8 : Int, w1.cell? ⟨k1, 0, none⟩ = some (.int .i64 n8) ∧
  ((decide (n8 > 10)) = true →
  R (.int .i64 1) w1) ∧
  ((decide (n8 > 10)) = false →
  ∃ n13 : Int, w1.cell? ⟨k1, 1, none⟩ = some (.int .i64 n13) ∧
  ((decide (n13 < 1)) = true →
  R (.int .i64 1) w1) ∧
  ((decide (n13 < 1)) = false →
  ∃ n18 : Int, w1.cell? ⟨k1, 1, none⟩ = some (.int .i64 n18) ∧
  ((decide (n18 > 4)) = true →
  R (.int .i64 1) w1) ∧
  ((decide (n18 > 4)) = false →
  ∃ n23 : Int, w1.cell? ⟨k1, 2, none⟩ = some (.int .i64 n23) ∧
  ((decide (n23 < 1)) = true →
  R (.int .i64 1) w1) ∧
  ((decide (n23 < 1)) = false →
  ∃ n28 : Int, w1.cell? ⟨k1, 2, none⟩ = some (.int .i64 n28) ∧
  ((decide (n28 > 256)) = true →
  R (.int .i64 1) w1) ∧
  ((decide (n28 > 256)) = false →
  R (.int .i64 0) w1))))))
theorem revetmentref07_Check_eq (n0_0 : Int) (n0_1 : Int) (n0_2 : Int) (w : World) (R : Value → World → Prop) : revetmentref07_Check n0_0 n0_1 n0_2 w R = fnP Try.prog Try.f24 .o [.agg #[.int .i64 n0_0, .int .i64 n0_1, .int .i64 n0_2]] w R := by kernel_rfl
theorem revetmentref07_Check_calls {n0_0 : Int} {n0_1 : Int} {n0_2 : Int} {w : World} {R : Value → World → Prop} (h : revetmentref07_Check n0_0 n0_1 n0_2 w R) : Calls Try.prog 24 #[.agg #[.int .i64 n0_0, .int .i64 n0_1, .int .i64 n0_2]] w fun e w1 => ∃ v, e = .returned v ∧ R v w1 := fnP_calls callable Try.func24 (revetmentref07_Check_eq n0_0 n0_1 n0_2 w R ▸ h)

/-- revetment/revetmentref07.Size -/
def revetmentref07_Size (n0_0 : Int) (n0_1 : Int) (n0_2 : Int) (w : World) (R : Value → World → Prop) : Prop :=
  Alloc #[.int .i64 n0_0, .int .i64 n0_1, .int .i64 n0_2] 23 w fun k1 w1 =>
  ∃ n3_0 : Int, ∃ n3_1 : Int, ∃ n3_2 : Int, (w1.cell? ⟨k1, 0, none⟩ = some (.int .i64 n3_0) ∧ w1.cell? ⟨k1, 1, none⟩ = some (.int .i64 n3_1) ∧ w1.cell? ⟨k1, 2, none⟩ = some (.int .i64 n3_2)) ∧
  Calls Try.prog 24 #[.agg #[.int .i64 n3_0, .int .i64 n3_1, .int .i64 n3_2]] w1 fun e w2 => ∃ n4 : Int, e = .returned (.int .i64 n4) ∧
  ((n4 != 0) = true →
  R (.int .i64 0) w2) ∧
  ((n4 != 0) = false →
  ∃ n7 : Int, w2.cell? ⟨k1, 2, none⟩ = some (.int .i64 n7) ∧
  ∃ n9 : Int, w2.cell? ⟨k1, 0, none⟩ = some (.int .i64 n9) ∧
  ∃ n13 : Int, w2.cell? ⟨k1, 1, none⟩ = some (.int .i64 n13) ∧
  R (.int .i64 (IntKind.i64.wrap ((IntKind.i64.wrap (n7 * (IntKind.i64.wrap (n9 - 2)))) * n13))) w2)
theorem revetmentref07_Size_eq (n0_0 : Int) (n0_1 : Int) (n0_2 : Int) (w : World) (R : Value → World → Prop) : revetmentref07_Size n0_0 n0_1 n0_2 w R = fnP Try.prog Try.f25 .o [.agg #[.int .i64 n0_0, .int .i64 n0_1, .int .i64 n0_2]] w R := by kernel_rfl
theorem revetmentref07_Size_calls {n0_0 : Int} {n0_1 : Int} {n0_2 : Int} {w : World} {R : Value → World → Prop} (h : revetmentref07_Size n0_0 n0_1 n0_2 w R) : Calls Try.prog 25 #[.agg #[.int .i64 n0_0, .int .i64 n0_1, .int .i64 n0_2]] w fun e w1 => ∃ v, e = .returned v ∧ R v w1 := fnP_calls callable Try.func25 (revetmentref07_Size_eq n0_0 n0_1 n0_2 w R ▸ h)

/-- revetment/revetmentref07.Need -/
def revetmentref07_Need (n0_0 : Int) (n0_1 : Int) (n0_2 : Int) (w : World) (R : Value → World → Prop) : Prop :=
  Alloc #[.int .i64 n0_0, .int .i64 n0_1, .int .i64 n0_2] 23 w fun k1 w1 =>
  ∃ n3_0 : Int, ∃ n3_1 : Int, ∃ n3_2 : Int, (w1.cell? ⟨k1, 0, none⟩ = some (.int .i64 n3_0) ∧ w1.cell? ⟨k1, 1, none⟩ = some (.int .i64 n3_1) ∧ w1.cell? ⟨k1, 2, none⟩ = some (.int .i64 n3_2)) ∧
  Calls Try.prog 24 #[.agg #[.int .i64 n3_0, .int .i64 n3_1, .int .i64 n3_2]] w1 fun e w2 => ∃ n4 : Int, e = .returned (.int .i64 n4) ∧
  ((n4 != 0) = true →
  R (.int .i64 0) w2) ∧
  ((n4 != 0) = false →
  ∃ n7 : Int, w2.cell? ⟨k1, 2, none⟩ = some (.int .i64 n7) ∧
  ∃ n9 : Int, w2.cell? ⟨k1, 1, none⟩ = some (.int .i64 n9) ∧
  R (.int .i64 (IntKind.i64.wrap (4 + (IntKind.i64.wrap (n7 * n9))))) w2)
theorem revetmentref07_Need_eq (n0_0 : Int) (n0_1 : Int) (n0_2 : Int) (w : World) (R : Value → World → Prop) : revetmentref07_Need n0_0 n0_1 n0_2 w R = fnP Try.prog Try.f26 .o [.agg #[.int .i64 n0_0, .int .i64 n0_1, .int .i64 n0_2]] w R := by kernel_rfl
theorem revetmentref07_Need_calls {n0_0 : Int} {n0_1 : Int} {n0_2 : Int} {w : World} {R : Value → World → Prop} (h : revetmentref07_Need n0_0 n0_1 n0_2 w R) : Calls Try.prog 26 #[.agg #[.int .i64 n0_0, .int .i64 n0_1, .int .i64 n0_2]] w fun e w1 => ∃ v, e = .returned v ∧ R v w1 := fnP_calls callable Try.func26 (revetmentref07_Need_eq n0_0 n0_1 n0_2 w R ▸ h)

/-- revetment/revetmentref07.Rows -/
def revetmentref07_Rows (n0 : Int) (n1 : Int) (w : World) (R : Value → World → Prop) : Prop :=
  ((decide (n1 < 1)) = true →
  R (.int .i64 0) w) ∧
  ((decide (n1 < 1)) = false →
  ((decide (n1 > 4)) = true →
  R (.int .i64 0) w) ∧
  ((decide (n1 > 4)) = false →
  ((decide (n0 < 4)) = true →
  R (.int .i64 0) w) ∧
  ((decide (n0 < 4)) = false →
  n1 ≠ 0 ∧
  ∃ n19 : Int, ∃ w1, (builtin .min #[3, 3] 3 #[false, true] #[.int .i64 (IntKind.i64.wrap (Int.tdiv (IntKind.i64.wrap (n0 - 4)) n1)), .int .i64 256]).run Try.prog w = .ok (.value (.int .i64 n19)) w1 ∧
  R (.int .i64 n19) w1)))
theorem revetmentref07_Rows_eq (n0 : Int) (n1 : Int) (w : World) (R : Value → World → Prop) : revetmentref07_Rows n0 n1 w R = fnP Try.prog Try.f27 .o [.int .i64 n0, .int .i64 n1] w R := by kernel_rfl
theorem revetmentref07_Rows_calls {n0 : Int} {n1 : Int} {w : World} {R : Value → World → Prop} (h : revetmentref07_Rows n0 n1 w R) : Calls Try.prog 27 #[.int .i64 n0, .int .i64 n1] w fun e w1 => ∃ v, e = .returned v ∧ R v w1 := fnP_calls callable Try.func27 (revetmentref07_Rows_eq n0 n1 w R ▸ h)

/-- revetment/revetmentref07.Column -/
def revetmentref07_Column (n0_0 : Int) (n0_1 : Int) (n0_2 : Int) (n1 : Int) (n2 : Int) (w : World) (R : Value → World → Prop) : Prop :=
  Alloc #[.int .i64 n0_0, .int .i64 n0_1, .int .i64 n0_2] 23 w fun k3 w1 =>
  ∃ n9_0 : Int, ∃ n9_1 : Int, ∃ n9_2 : Int, (w1.cell? ⟨k3, 0, none⟩ = some (.int .i64 n9_0) ∧ w1.cell? ⟨k3, 1, none⟩ = some (.int .i64 n9_1) ∧ w1.cell? ⟨k3, 2, none⟩ = some (.int .i64 n9_2)) ∧
  ∃ n13 : Int, w1.cell? ⟨k3, 0, none⟩ = some (.int .i64 n13) ∧
  Calls Try.prog 35 #[.agg #[.int .i64 n9_0, .int .i64 n9_1, .int .i64 n9_2], .int .i64 n1, .int .i64 n2, .int .i64 (IntKind.i64.wrap (n13 - 2))] w1 fun e w2 => ∃ b15 : Bool, e = .returned (.bool b15) ∧
  ((!b15) = true →
  R (.int .i64 0) w2) ∧
  ((!b15) = false →
  ∃ n18_0 : Int, ∃ n18_1 : Int, ∃ n18_2 : Int, (w2.cell? ⟨k3, 0, none⟩ = some (.int .i64 n18_0) ∧ w2.cell? ⟨k3, 1, none⟩ = some (.int .i64 n18_1) ∧ w2.cell? ⟨k3, 2, none⟩ = some (.int .i64 n18_2)) ∧
  Calls Try.prog 21 #[.agg #[.int .i64 n18_0, .int .i64 n18_1, .int .i64 n18_2], .int .i64 n1] w2 fun e_1 w3 => ∃ n20_0 : Int, ∃ n20_1 : Int, e_1 = .returned (.tuple #[.int .i64 n20_0, .int .i64 n20_1]) ∧
  ∃ n28 : Int, w3.cell? ⟨k3, 0, none⟩ = some (.int .i64 n28) ∧
  n28 ≠ 0 ∧
  R (.int .i64 (Int.tmod (IntKind.i64.wrap ((IntKind.i64.wrap (n20_1 + 1)) + n2)) n28)) w3)
theorem revetmentref07_Column_eq (n0_0 : Int) (n0_1 : Int) (n0_2 : Int) (n1 : Int) (n2 : Int) (w : World) (R : Value → World → Prop) : revetmentref07_Column n0_0 n0_1 n0_2 n1 n2 w R = fnP Try.prog Try.f28 .o [.agg #[.int .i64 n0_0, .int .i64 n0_1, .int .i64 n0_2], .int .i64 n1, .int .i64 n2] w R := by kernel_rfl
theorem revetmentref07_Column_calls {n0_0 : Int} {n0_1 : Int} {n0_2 : Int} {n1 : Int} {n2 : Int} {w : World} {R : Value → World → Prop} (h : revetmentref07_Column n0_0 n0_1 n0_2 n1 n2 w R) : Calls Try.prog 28 #[.agg #[.int .i64 n0_0, .int .i64 n0_1, .int .i64 n0_2], .int .i64 n1, .int .i64 n2] w fun e w1 => ∃ v, e = .returned v ∧ R v w1 := fnP_calls callable Try.func28 (revetmentref07_Column_eq n0_0 n0_1 n0_2 n1 n2 w R ▸ h)

/-- revetment/revetmentref07.Role -/
def revetmentref07_Role (n0_0 : Int) (n0_1 : Int) (n0_2 : Int) (n1 : Int) (n2 : Int) (w : World) (R : Value → World → Prop) : Prop :=
  Alloc #[.int .i64 n0_0, .int .i64 n0_1, .int .i64 n0_2] 23 w fun k3 w1 =>
  ∃ n10_0 : Int, ∃ n10_1 : Int, ∃ n10_2 : Int, (w1.cell? ⟨k3, 0, none⟩ = some (.int .i64 n10_0) ∧ w1.cell? ⟨k3, 1, none⟩ = some (.int .i64 n10_1) ∧ w1.cell? ⟨k3, 2, none⟩ = some (.int .i64 n10_2)) ∧
  ∃ n14 : Int, w1.cell? ⟨k3, 0, none⟩ = some (.int .i64 n14) ∧
  Calls Try.prog 35 #[.agg #[.int .i64 n10_0, .int .i64 n10_1, .int .i64 n10_2], .int .i64 n1, .int .i64 n2, .int .i64 n14] w1 fun e w2 => ∃ b15 : Bool, e = .returned (.bool b15) ∧
  ((!b15) = true →
  R (.int .i64 0) w2) ∧
  ((!b15) = false →
  ∃ n18_0 : Int, ∃ n18_1 : Int, ∃ n18_2 : Int, (w2.cell? ⟨k3, 0, none⟩ = some (.int .i64 n18_0) ∧ w2.cell? ⟨k3, 1, none⟩ = some (.int .i64 n18_1) ∧ w2.cell? ⟨k3, 2, none⟩ = some (.int .i64 n18_2)) ∧
  Calls Try.prog 21 #[.agg #[.int .i64 n18_0, .int .i64 n18_1, .int .i64 n18_2], .int .i64 n1] w2 fun e_1 w3 => ∃ n20_0 : Int, ∃ n20_1 : Int, e_1 = .returned (.tuple #[.int .i64 n20_0, .int .i64 n20_1]) ∧
  ((n2 == n20_0) = true →
  ∃ n27 : Int, w3.cell? ⟨k3, 0, none⟩ = some (.int .i64 n27) ∧
  R (.int .i64 (IntKind.i64.wrap (n27 - 2))) w3) ∧
  ((n2 == n20_0) = false →
  ((n2 == n20_1) = true →
  ∃ n33 : Int, w3.cell? ⟨k3, 0, none⟩ = some (.int .i64 n33) ∧
  R (.int .i64 (IntKind.i64.wrap (n33 - 1))) w3) ∧
  ((n2 == n20_1) = false →
  LoopP (fun I => I [.int .i64 0] w3) fun K vs w4 => ∃ n9 : Int, vs = [.int .i64 n9] ∧
  ∃ n35_0 : Int, ∃ n35_1 : Int, ∃ n35_2 : Int, (w4.cell? ⟨k3, 0, none⟩ = some (.int .i64 n35_0) ∧ w4.cell? ⟨k3, 1, none⟩ = some (.int .i64 n35_1) ∧ w4.cell? ⟨k3, 2, none⟩ = some (.int .i64 n35_2)) ∧
  Calls Try.prog 28 #[.agg #[.int .i64 n35_0, .int .i64 n35_1, .int .i64 n35_2], .int .i64 n1, .int .i64 n9] w4 fun e_2 w5 => ∃ n38 : Int, e_2 = .returned (.int .i64 n38) ∧
  ((n38 != n2) = true →
  K [.int .i64 (IntKind.i64.wrap (n9 + 1))] w5) ∧
  ((n38 != n2) = false →
  R (.int .i64 n9) w5))))
theorem revetmentref07_Role_eq (n0_0 : Int) (n0_1 : Int) (n0_2 : Int) (n1 : Int) (n2 : Int) (w : World) (R : Value → World → Prop) : revetmentref07_Role n0_0 n0_1 n0_2 n1 n2 w R = fnP Try.prog Try.f29 (.s .o (.s .o (.s .o (.s .o (.s .o (.s .o (.s (.b (.l [(9, .one (.int .i64))] .o)) .o))))))) [.agg #[.int .i64 n0_0, .int .i64 n0_1, .int .i64 n0_2], .int .i64 n1, .int .i64 n2] w R := by kernel_rfl
theorem revetmentref07_Role_calls {n0_0 : Int} {n0_1 : Int} {n0_2 : Int} {n1 : Int} {n2 : Int} {w : World} {R : Value → World → Prop} (h : revetmentref07_Role n0_0 n0_1 n0_2 n1 n2 w R) : Calls Try.prog 29 #[.agg #[.int .i64 n0_0, .int .i64 n0_1, .int .i64 n0_2], .int .i64 n1, .int .i64 n2] w fun e w1 => ∃ v, e = .returned v ∧ R v w1 := fnP_calls callable Try.func29 (revetmentref07_Role_eq n0_0 n0_1 n0_2 n1 n2 w R ▸ h)

/-- revetment/revetmentref07.Sector -/
def revetmentref07_Sector (n0_0 : Int) (n0_1 : Int) (n0_2 : Int) (n1 : Int) (n2 : Int) (w : World) (R : Value → World → Prop) : Prop :=
  Alloc #[.int .i64 n0_0, .int .i64 n0_1, .int .i64 n0_2] 23 w fun k3 w1 =>
  ∃ n7_0 : Int, ∃ n7_1 : Int, ∃ n7_2 : Int, (w1.cell? ⟨k3, 0, none⟩ = some (.int .i64 n7_0) ∧ w1.cell? ⟨k3, 1, none⟩ = some (.int .i64 n7_1) ∧ w1.cell? ⟨k3, 2, none⟩ = some (.int .i64 n7_2)) ∧
  ∃ n11 : Int, w1.cell? ⟨k3, 1, none⟩ = some (.int .i64 n11) ∧
  Calls Try.prog 35 #[.agg #[.int .i64 n7_0, .int .i64 n7_1, .int .i64 n7_2], .int .i64 n1, .int .i64 n2, .int .i64 n11] w1 fun e w2 => ∃ b12 : Bool, e = .returned (.bool b12) ∧
  ((!b12) = true →
  R (.int .i64 0) w2) ∧
  ((!b12) = false →
  ∃ n16 : Int, w2.cell? ⟨k3, 1, none⟩ = some (.int .i64 n16) ∧
  R (.int .i64 (IntKind.i64.wrap ((IntKind.i64.wrap (4 + (IntKind.i64.wrap (n1 * n16)))) + n2))) w2)
theorem revetmentref07_Sector_eq (n0_0 : Int) (n0_1 : Int) (n0_2 : Int) (n1 : Int) (n2 : Int) (w : World) (R : Value → World → Prop) : revetmentref07_Sector n0_0 n0_1 n0_2 n1 n2 w R = fnP Try.prog Try.f30 .o [.agg #[.int .i64 n0_0, .int .i64 n0_1, .int .i64 n0_2], .int .i64 n1, .int .i64 n2] w R := by kernel_rfl
theorem revetmentref07_Sector_calls {n0_0 : Int} {n0_1 : Int} {n0_2 : Int} {n1 : Int} {n2 : Int} {w : World} {R : Value → World → Prop} (h : revetmentref07_Sector n0_0 n0_1 n0_2 n1 n2 w R) : Calls Try.prog 30 #[.agg #[.int .i64 n0_0, .int .i64 n0_1, .int .i64 n0_2], .int .i64 n1, .int .i64 n2] w fun e w1 => ∃ v, e = .returned v ∧ R v w1 := fnP_calls callable Try.func30 (revetmentref07_Sector_eq n0_0 n0_1 n0_2 n1 n2 w R ▸ h)

/-- (revetment/layout.plan).in -/
def layout_plan_in (n0_0 : Int) (n0_1 : Int) (n0_2 : Int) (n1 : Int) (n2 : Int) (n3 : Int) (w : World) (R : Value → World → Prop) : Prop :=
  Alloc #[.int .i64 n0_0, .int .i64 n0_1, .int .i64 n0_2] 46 w fun k4 w1 =>
  ∃ n9_0 : Int, ∃ n9_1 : Int, ∃ n9_2 : Int, (w1.cell? ⟨k4, 0, none⟩ = some (.int .i64 n9_0) ∧ w1.cell? ⟨k4, 1, none⟩ = some (.int .i64 n9_1) ∧ w1.cell? ⟨k4, 2, none⟩ = some (.int .i64 n9_2)) ∧
  Calls Try.prog 34 #[.agg #[.int .i64 n9_0, .int .i64 n9_1, .int .i64 n9_2]] w1 fun e w2 => ∃ b10 : Bool, e = .returned (.bool b10) ∧
  (b10 = true →
  ((decide (n1 ≥ 0)) = true →
  ∃ n19 : Int, w2.cell? ⟨k4, 2, none⟩ = some (.int .i64 n19) ∧
  ((decide (n1 < n19)) = true →
  ((decide (n2 ≥ 0)) = true →
  R (.bool (decide (n2 < n3))) w2) ∧
  ((decide (n2 ≥ 0)) = false →
  R (.bool false) w2)) ∧
  ((decide (n1 < n19)) = false →
  R (.bool false) w2)) ∧
  ((decide (n1 ≥ 0)) = false →
  R (.bool false) w2)) ∧
  (b10 = false →
  R (.bool false) w2)
theorem layout_plan_in_eq (n0_0 : Int) (n0_1 : Int) (n0_2 : Int) (n1 : Int) (n2 : Int) (n3 : Int) (w : World) (R : Value → World → Prop) : layout_plan_in n0_0 n0_1 n0_2 n1 n2 n3 w R = fnP Try.prog Try.f31 .o [.agg #[.int .i64 n0_0, .int .i64 n0_1, .int .i64 n0_2], .int .i64 n1, .int .i64 n2, .int .i64 n3] w R := by kernel_rfl
theorem layout_plan_in_calls {n0_0 : Int} {n0_1 : Int} {n0_2 : Int} {n1 : Int} {n2 : Int} {n3 : Int} {w : World} {R : Value → World → Prop} (h : layout_plan_in n0_0 n0_1 n0_2 n1 n2 n3 w R) : Calls Try.prog 31 #[.agg #[.int .i64 n0_0, .int .i64 n0_1, .int .i64 n0_2], .int .i64 n1, .int .i64 n2, .int .i64 n3] w fun e w1 => ∃ v, e = .returned v ∧ R v w1 := fnP_calls callable Try.func31 (layout_plan_in_eq n0_0 n0_1 n0_2 n1 n2 n3 w R ▸ h)

/-- (revetment/layout.plan).first -/
def layout_plan_first (n0_0 : Int) (n0_1 : Int) (n0_2 : Int) (n1 : Int) (w : World) (R : Value → World → Prop) : Prop :=
  Alloc #[.int .i64 n0_0, .int .i64 n0_1, .int .i64 n0_2] 46 w fun k2 w1 =>
  ∃ D : World → Prop, D w1.drew ∧
  ∃ n7 : Int, (∀ w, D w → w.cell? ⟨k2, 0, none⟩ = some (.int .i64 n7)) ∧
  ∃ n12 : Int, (∀ w, D w → w.cell? ⟨k2, 0, none⟩ = some (.int .i64 n12)) ∧
  n12 ≠ 0 ∧
  ∃ n17 : Int, (∀ w, D w → w.cell? ⟨k2, 0, none⟩ = some (.int .i64 n17)) ∧
  n17 ≠ 0 ∧
  R (.int .i64 (Int.tmod (IntKind.i64.wrap ((IntKind.i64.wrap (2 * n7)) - (Int.tmod n1 n12))) n17)) w1.drew
theorem layout_plan_first_eq (n0_0 : Int) (n0_1 : Int) (n0_2 : Int) (n1 : Int) (w : World) (R : Value → World → Prop) : layout_plan_first n0_0 n0_1 n0_2 n1 w R = fnP Try.prog Try.f32 .o [.agg #[.int .i64 n0_0, .int .i64 n0_1, .int .i64 n0_2], .int .i64 n1] w R := by kernel_rfl
theorem layout_plan_first_calls {n0_0 : Int} {n0_1 : Int} {n0_2 : Int} {n1 : Int} {w : World} {R : Value → World → Prop} (h : layout_plan_first n0_0 n0_1 n0_2 n1 w R) : Calls Try.prog 32 #[.agg #[.int .i64 n0_0, .int .i64 n0_1, .int .i64 n0_2], .int .i64 n1] w fun e w1 => ∃ v, e = .returned v ∧ R v w1 := fnP_calls callable Try.func32 (layout_plan_first_eq n0_0 n0_1 n0_2 n1 w R ▸ h)

/-- (revetment/layout.plan).data -/
def layout_plan_data (n0_0 : Int) (n0_1 : Int) (n0_2 : Int) (w : World) (R : Value → World → Prop) : Prop :=
  Alloc #[.int .i64 n0_0, .int .i64 n0_1, .int .i64 n0_2] 46 w fun k1 w1 =>
  ∃ n5 : Int, w1.cell? ⟨k1, 0, none⟩ = some (.int .i64 n5) ∧
  R (.int .i64 (IntKind.i64.wrap (n5 - 2))) w1
theorem layout_plan_data_eq (n0_0 : Int) (n0_1 : Int) (n0_2 : Int) (w : World) (R : Value → World → Prop) : layout_plan_data n0_0 n0_1 n0_2 w R = fnP Try.prog Try.f33 .o [.agg #[.int .i64 n0_0, .int .i64 n0_1, .int .i64 n0_2]] w R := by kernel_rfl
theorem layout_plan_data_calls {n0_0 : Int} {n0_1 : Int} {n0_2 : Int} {w : World} {R : Value → World → Prop} (h : layout_plan_data n0_0 n0_1 n0_2 w R) : Calls Try.prog 33 #[.agg #[.int .i64 n0_0, .int .i64 n0_1, .int .i64 n0_2]] w fun e w1 => ∃ v, e = .returned v ∧ R v w1 := fnP_calls callable Try.func33 (layout_plan_data_eq n0_0 n0_1 n0_2 w R ▸ h)

/-- (revetment/layout.plan).good -/
def layout_plan_good (n0_0 : Int) (n0_1 : Int) (n0_2 : Int) (w : World) (R : Value → World → Prop) : Prop :=
  Alloc #[.int .i64 n0_0, .int .i64 n0_1, .int .i64 n0_2] 46 w fun k1 w1 =>
  ∃ n4_0 : Int, ∃ n4_1 : Int, ∃ n4_2 : Int, (w1.cell? ⟨k1, 0, none⟩ = some (.int .i64 n4_0) ∧ w1.cell? ⟨k1, 1, none⟩ = some (.int .i64 n4_1) ∧ w1.cell? ⟨k1, 2, none⟩ = some (.int .i64 n4_2)) ∧
  Calls Try.prog 23 #[.agg #[.int .i64 n4_0, .int .i64 n4_1, .int .i64 n4_2]] w1 fun e w2 => ∃ n5 : Int, e = .returned (.int .i64 n5) ∧
  R (.bool (n5 == 0)) w2
theorem layout_plan_good_eq (n0_0 : Int) (n0_1 : Int) (n0_2 : Int) (w : World) (R : Value → World → Prop) : layout_plan_good n0_0 n0_1 n0_2 w R = fnP Try.prog Try.f34 .o [.agg #[.int .i64 n0_0, .int .i64 n0_1, .int .i64 n0_2]] w R := by kernel_rfl
theorem layout_plan_good_calls {n0_0 : Int} {n0_1 : Int} {n0_2 : Int} {w : World} {R : Value → World → Prop} (h : layout_plan_good n0_0 n0_1 n0_2 w R) : Calls Try.prog 34 #[.agg #[.int .i64 n0_0, .int .i64 n0_1, .int .i64 n0_2]] w fun e w1 => ∃ v, e = .returned v ∧ R v w1 := fnP_calls callable Try.func34 (layout_plan_good_eq n0_0 n0_1 n0_2 w R ▸ h)

/-- revetment/revetmentref07.right -/
def revetmentref07_right (n0_0 : Int) (n0_1 : Int) (n0_2 : Int) (n1 : Int) (n2 : Int) (n3 : Int) (w : World) (R : Value → World → Prop) : Prop :=
  Alloc #[.int .i64 n0_0, .int .i64 n0_1, .int .i64 n0_2] 23 w fun k4 w1 =>
  ∃ n9_0 : Int, ∃ n9_1 : Int, ∃ n9_2 : Int, (w1.cell? ⟨k4, 0, none⟩ = some (.int .i64 n9_0) ∧ w1.cell? ⟨k4, 1, none⟩ = some (.int .i64 n9_1) ∧ w1.cell? ⟨k4, 2, none⟩ = some (.int .i64 n9_2)) ∧
  Calls Try.prog 24 #[.agg #[.int .i64 n9_0, .int .i64 n9_1, .int .i64 n9_2]] w1 fun e w2 => ∃ n10 : Int, e = .returned (.int .i64 n10) ∧
  ((n10 == 0) = true →
  ((decide (n1 ≥ 0)) = true →
  ∃ n19 : Int, w2.cell? ⟨k4, 2, none⟩ = some (.int .i64 n19) ∧
  ((decide (n1 < n19)) = true →
  ((decide (n2 ≥ 0)) = true →
  R (.bool (decide (n2 < n3))) w2) ∧
  ((decide (n2 ≥ 0)) = false →
  R (.bool false) w2)) ∧
  ((decide (n1 < n19)) = false →
  R (.bool false) w2)) ∧
  ((decide (n1 ≥ 0)) = false →
  R (.bool false) w2)) ∧
  ((n10 == 0) = false →
  R (.bool false) w2)
theorem revetmentref07_right_eq (n0_0 : Int) (n0_1 : Int) (n0_2 : Int) (n1 : Int) (n2 : Int) (n3 : Int) (w : World) (R : Value → World → Prop) : revetmentref07_right n0_0 n0_1 n0_2 n1 n2 n3 w R = fnP Try.prog Try.f35 .o [.agg #[.int .i64 n0_0, .int .i64 n0_1, .int .i64 n0_2], .int .i64 n1, .int .i64 n2, .int .i64 n3] w R := by kernel_rfl
theorem revetmentref07_right_calls {n0_0 : Int} {n0_1 : Int} {n0_2 : Int} {n1 : Int} {n2 : Int} {n3 : Int} {w : World} {R : Value → World → Prop} (h : revetmentref07_right n0_0 n0_1 n0_2 n1 n2 n3 w R) : Calls Try.prog 35 #[.agg #[.int .i64 n0_0, .int .i64 n0_1, .int .i64 n0_2], .int .i64 n1, .int .i64 n2, .int .i64 n3] w fun e w1 => ∃ v, e = .returned v ∧ R v w1 := fnP_calls callable Try.func35 (revetmentref07_right_eq n0_0 n0_1 n0_2 n1 n2 n3 w R ▸ h)

end Go.Proofs.Ytfnghfbggieagaa
