import Derived.Test.YtmipjkalfodcpaaDoorM2
/-! The formulas of Go functions, printed by a program of this session (shprint.py), each tied to the loaded function by the kernel. -/
namespace Go.Proofs.YtmipjkalfodcpaaDoor
open Go.Sh
set_option linter.unusedVariables false
set_option maxRecDepth 100000
/-- revetment/revetmentlaw11.PagesTells -/
def revetmentlaw11_PagesTells (n0_0 : Int) (s0_1 : ByteArray) (s1 : ByteArray) (w : World) (R : Value → World → Prop) : Prop :=
  Alloc #[.int .u64 n0_0, .string s0_1] 24 w fun k2 w1 =>
  ((decide ((s1.size : Int) > 200)) = true →
  Calls Tryd.prog 6 #[] w1 fun e w2 => ∃ b28 : Bool, e = .returned (.bool b28) ∧
  R (.bool b28) w2) ∧
  ((decide ((s1.size : Int) > 200)) = false →
  ∃ s20 : ByteArray, w1.cell? ⟨k2, 1, none⟩ = some (.string s20) ∧
  ((decide ((s20.size : Int) > 100)) = true →
  Calls Tryd.prog 6 #[] w1 fun e_1 w3 => ∃ b28_1 : Bool, e_1 = .returned (.bool b28_1) ∧
  R (.bool b28_1) w3) ∧
  ((decide ((s20.size : Int) > 100)) = false →
  Calls Tryd.prog 6 #[] w1 fun e_2 w4 => ∃ b25 : Bool, e_2 = .returned (.bool b25) ∧
  ((!b25) = true →
  Calls Tryd.prog 6 #[] w4 fun e_3 w5 => ∃ b28_2 : Bool, e_3 = .returned (.bool b28_2) ∧
  R (.bool b28_2) w5) ∧
  ((!b25) = false →
  ∃ n30_0 : Int, ∃ s30_1 : ByteArray, (w4.cell? ⟨k2, 0, none⟩ = some (.int .u64 n30_0) ∧ w4.cell? ⟨k2, 1, none⟩ = some (.string s30_1)) ∧
  Calls Tryd.prog 7 #[.agg #[.int .u64 n30_0, .string s30_1]] w4 fun e_4 w6 => ∃ s31_0 : ByteArray, ∃ n31_1 : Int, e_4 = .returned (.tuple #[.string s31_0, .int .i64 n31_1]) ∧
  ∃ n35_0 : Int, ∃ s35_1 : ByteArray, (w6.cell? ⟨k2, 0, none⟩ = some (.int .u64 n35_0) ∧ w6.cell? ⟨k2, 1, none⟩ = some (.string s35_1)) ∧
  Calls Tryd.prog 8 #[.agg #[.int .u64 n35_0, .string s35_1]] w6 fun e_5 w7 => ∃ s36_0 : ByteArray, ∃ n36_1 : Int, e_5 = .returned (.tuple #[.string s36_0, .int .i64 n36_1]) ∧
  Calls Tryd.prog 9 #[.string s1] w7 fun e_6 w8 => ∃ n41_0_0 : Int, ∃ s41_0_1 : ByteArray, ∃ n41_1 : Int, e_6 = .returned (.tuple #[.agg #[.int .u64 n41_0_0, .string s41_0_1], .int .i64 n41_1]) ∧
  Alloc #[.int .u64 0, .string (ByteArray.mk #[])] 24 w8 fun k9 w9 =>
  St ⟨k9, 0, none⟩ (.int .u64 n41_0_0) w9 fun w10 =>
  St ⟨k9, 1, none⟩ (.string s41_0_1) w10 fun w11 =>
  Calls Tryd.prog 10 #[.string s1] w11 fun e_7 w12 => ∃ n46_0_0 : Int, ∃ s46_0_1 : ByteArray, ∃ n46_1 : Int, e_7 = .returned (.tuple #[.agg #[.int .u64 n46_0_0, .string s46_0_1], .int .i64 n46_1]) ∧
  Alloc #[.int .u64 0, .string (ByteArray.mk #[])] 30 w12 fun k11 w13 =>
  St ⟨k11, 0, none⟩ (.int .u64 n46_0_0) w13 fun w14 =>
  St ⟨k11, 1, none⟩ (.string s46_0_1) w14 fun w15 =>
  ((!(s31_0.toList == s36_0.toList)) = true →
  R (.bool false) w15) ∧
  ((!(s31_0.toList == s36_0.toList)) = false →
  ((n31_1 != n36_1) = true →
  R (.bool false) w15) ∧
  ((n31_1 != n36_1) = false →
  ∃ n58_0 : Int, ∃ s58_1 : ByteArray, (w15.cell? ⟨k9, 0, none⟩ = some (.int .u64 n58_0) ∧ w15.cell? ⟨k9, 1, none⟩ = some (.string s58_1)) ∧
  ∃ n59_0 : Int, ∃ s59_1 : ByteArray, (w15.cell? ⟨k11, 0, none⟩ = some (.int .u64 n59_0) ∧ w15.cell? ⟨k11, 1, none⟩ = some (.string s59_1)) ∧
  ∃ b60 : Bool, ∃ w16, (do eqGuard .neq 30 (.tmp 58) (.tmp 59) (.agg #[.int .u64 n58_0, .string s58_1]) (.agg #[.int .u64 n59_0, .string s59_1]); binOp .neq 30 (.agg #[.int .u64 n58_0, .string s58_1]) (.agg #[.int .u64 n59_0, .string s59_1]) : Sem Value).run Tryd.prog w15 = .ok (.bool b60) w16 ∧
  (b60 = true →
  R (.bool false) w16) ∧
  (b60 = false →
  ((n41_1 != n46_1) = true →
  R (.bool false) w16) ∧
  ((n41_1 != n46_1) = false →
  ((n31_1 != 0) = true →
  R (.bool (s31_0.toList == (ByteArray.mk #[]).toList)) w16) ∧
  ((n31_1 != 0) = false →
  Calls Tryd.prog 9 #[.string s31_0] w16 fun e_8 w17 => ∃ n73_0_0 : Int, ∃ s73_0_1 : ByteArray, ∃ n73_1 : Int, e_8 = .returned (.tuple #[.agg #[.int .u64 n73_0_0, .string s73_0_1], .int .i64 n73_1]) ∧
  Alloc #[.int .u64 0, .string (ByteArray.mk #[])] 24 w17 fun k13 w18 =>
  St ⟨k13, 0, none⟩ (.int .u64 n73_0_0) w18 fun w19 =>
  St ⟨k13, 1, none⟩ (.string s73_0_1) w19 fun w20 =>
  ∃ n76_0 : Int, ∃ s76_1 : ByteArray, (w20.cell? ⟨k13, 0, none⟩ = some (.int .u64 n76_0) ∧ w20.cell? ⟨k13, 1, none⟩ = some (.string s76_1)) ∧
  ∃ n77_0 : Int, ∃ s77_1 : ByteArray, (w20.cell? ⟨k2, 0, none⟩ = some (.int .u64 n77_0) ∧ w20.cell? ⟨k2, 1, none⟩ = some (.string s77_1)) ∧
  ∃ b78 : Bool, ∃ w21, (do eqGuard .eql 24 (.tmp 76) (.tmp 77) (.agg #[.int .u64 n76_0, .string s76_1]) (.agg #[.int .u64 n77_0, .string s77_1]); binOp .eql 24 (.agg #[.int .u64 n76_0, .string s76_1]) (.agg #[.int .u64 n77_0, .string s77_1]) : Sem Value).run Tryd.prog w20 = .ok (.bool b78) w21 ∧
  (b78 = true →
  R (.bool (n73_1 == 0)) w21) ∧
  (b78 = false →
  R (.bool false) w21)))))))))
theorem revetmentlaw11_PagesTells_eq (n0_0 : Int) (s0_1 : ByteArray) (s1 : ByteArray) (w : World) (R : Value → World → Prop) : revetmentlaw11_PagesTells n0_0 s0_1 s1 w R = fnP Tryd.prog Tryd.f3 .o [.agg #[.int .u64 n0_0, .string s0_1], .string s1] w R := by kernel_rfl
theorem revetmentlaw11_PagesTells_calls {n0_0 : Int} {s0_1 : ByteArray} {s1 : ByteArray} {w : World} {R : Value → World → Prop} (h : revetmentlaw11_PagesTells n0_0 s0_1 s1 w R) : Calls Tryd.prog 3 #[.agg #[.int .u64 n0_0, .string s0_1], .string s1] w fun e w1 => ∃ v, e = .returned v ∧ R v w1 := fnP_calls callable Tryd.func3 (revetmentlaw11_PagesTells_eq n0_0 s0_1 s1 w R ▸ h)

/-- revetment/revetmentlaw11.PagesJoined -/
def revetmentlaw11_PagesJoined (p0 : Option Addr) (l0 c0 : Nat) (p1 : Option Addr) (l1 c1 : Nat) (n2 : Int) (n3 : Int) (w : World) (R : Value → World → Prop) : Prop :=
  ∃ n23 : Int, ∃ w1, (builtin .min #[3, 3, 3] 3 #[false, false, true] #[.int .i64 (l0 : Int), .int .i64 (l1 : Int), .int .i64 8]).run Tryd.prog w = .ok (.value (.int .i64 n23)) w1 ∧
  Alloc #[] 39 w1 fun k24 w2 =>
  LoopP (fun I => I [.slice (some ⟨k24, 0, none⟩) 0 0, .int .i64 0] w2) fun K vs w3 => ∃ (p10 : Option Addr) (l10 c10 : Nat), ∃ n11 : Int, vs = [.slice p10 l10 c10, .int .i64 n11] ∧
  ((decide (n11 < n23)) = true →
  ∃ a32 : Addr, p0 = some a32 ∧ (0 : Int) ≤ n11 ∧ n11 < (l0 : Int) ∧
  ∃ s33 : ByteArray, w3.cell? (Addr.add a32 (n11.toNat * 1)) = some (.string s33) ∧
  ((decide ((s33.size : Int) > 100)) = true →
  Calls Tryd.prog 6 #[] w3 fun e w4 => ∃ b36 : Bool, e = .returned (.bool b36) ∧
  R (.bool b36) w4) ∧
  ((decide ((s33.size : Int) > 100)) = false →
  Calls Tryd.prog 11 #[.int .i64 3] w3 fun e_1 w5 => ∃ p37 : Option Addr, e_1 = .returned (.pointer p37) ∧
  ∃ D : World → Prop, D w5.drew ∧
  ((Option.isNone p37) = true →
  R (.bool false) w5.drew) ∧
  ((Option.isNone p37) = false →
  ∃ a44 : Addr, p1 = some a44 ∧ (0 : Int) ≤ n11 ∧ n11 < (l1 : Int) ∧
  ∃ n45 : Int, (∀ w, D w → w.cell? (Addr.add a44 (n11.toNat * 1)) = some (.int .u64 n45)) ∧
  ∃ a48 : Addr, p0 = some a48 ∧ (0 : Int) ≤ n11 ∧ n11 < (l0 : Int) ∧
  ∃ s49 : ByteArray, (∀ w, D w → w.cell? (Addr.add a48 (n11.toNat * 1)) = some (.string s49)) ∧
  Calls Tryd.prog 13 #[.string s49] w5.drew fun e_2 w6 => ∃ s50 : ByteArray, e_2 = .returned (.string s50) ∧
  D w6 ∧
  Calls Tryd.prog 12 #[.pointer p37, .agg #[.int .u64 n45, .string s50]] w6 fun e_3 w7 => ∃ n52 : Int, e_3 = .returned (.int .i64 n52) ∧
  D w7 ∧
  ((n52 != 0) = true →
  R (.bool false) w7) ∧
  ((n52 != 0) = false →
  Alloc #[.pointer p37] 39 w7 fun k57 w8 =>
  ∃ (p58 : Option Addr) (l58 c58 : Nat), ∃ w9, (builtin .append #[38, 38] 38 #[false, false] #[.slice p10 l10 c10, .slice (some ⟨k57, 0, none⟩) 1 1]).run Tryd.prog w8 = .ok (.value (.slice p58 l58 c58)) w9 ∧
  K [.slice p58 l58 c58, .int .i64 (IntKind.i64.wrap (n11 + 1))] w9)))) ∧
  ((decide (n11 < n23)) = false →
  Calls Tryd.prog 14 #[.slice p10 l10 c10, .int .u64 n2] w3 fun e_4 w10 => ∃ s62_0 : ByteArray, ∃ b62_1 : Bool, e_4 = .returned (.tuple #[.string s62_0, .bool b62_1]) ∧
  Join (fun vs_1 w11 => vs_1 = [] ∧
  Calls Tryd.prog 14 #[.slice p10 l10 c10, .int .u64 n2] w11 fun e_5 w12 => ∃ s78_0 : ByteArray, ∃ b78_1 : Bool, e_5 = .returned (.tuple #[.string s78_0, .bool b78_1]) ∧
  (((s62_0.size : Int) != 8) = true →
  R (.bool false) w12) ∧
  (((s62_0.size : Int) != 8) = false →
  (((s78_0.size : Int) != 8) = true →
  R (.bool false) w12) ∧
  (((s78_0.size : Int) != 8) = false →
  LoopP (fun I_1 => I_1 [.int .i64 0] w12) fun K_1 vs_2 w13 => ∃ n17 : Int, vs_2 = [.int .i64 n17] ∧
  ((decide (n17 < 8)) = true →
  ∃ D_1 : World → Prop, D_1 w13.drew ∧
  ∃ n95 : Int, (∀ w, D_1 w → (Instr.index 9 (.string s78_0) (.int .i64 n17)).run Tryd.prog w = .ok (.int .u8 n95) w) ∧
  ∃ n98 : Int, (∀ w, D_1 w → (Instr.index 9 (.string s62_0) (.int .i64 n17)).run Tryd.prog w = .ok (.int .u8 n98) w) ∧
  (((bits2 .andNot .u8 n95 n98) != 0) = true →
  R (.bool false) w13.drew) ∧
  (((bits2 .andNot .u8 n95 n98) != 0) = false →
  LoopP (fun I_2 => I_2 [.int .i64 0] w13.drew) fun K_2 vs_3 w14 => ∃ n18 : Int, vs_3 = [.int .i64 n18] ∧
  ((decide (n18 < n23)) = true →
  ∃ D_2 : World → Prop, D_2 w14.drew ∧
  ∃ a108 : Addr, p1 = some a108 ∧ (0 : Int) ≤ n18 ∧ n18 < (l1 : Int) ∧
  ∃ n109 : Int, (∀ w, D_2 w → w.cell? (Addr.add a108 (n18.toNat * 1)) = some (.int .u64 n109)) ∧
  ((decide (n109 ≥ n2)) = true →
  ∃ a115 : Addr, p0 = some a115 ∧ (0 : Int) ≤ n18 ∧ n18 < (l0 : Int) ∧
  ∃ s116 : ByteArray, (∀ w, D_2 w → w.cell? (Addr.add a115 (n18.toNat * 1)) = some (.string s116)) ∧
  Calls Tryd.prog 13 #[.string s116] w14.drew fun e_6 w15 => ∃ s117 : ByteArray, e_6 = .returned (.string s117) ∧
  D_2 w15 ∧
  ∃ n119 : Int, (∀ w, D_2 w → (Instr.index 9 (.string s117) (.int .i64 n17)).run Tryd.prog w = .ok (.int .u8 n119) w) ∧
  ∃ n122 : Int, (∀ w, D_2 w → (Instr.index 9 (.string s62_0) (.int .i64 n17)).run Tryd.prog w = .ok (.int .u8 n122) w) ∧
  (((bits2 .andNot .u8 n119 n122) != 0) = true →
  R (.bool false) w15) ∧
  (((bits2 .andNot .u8 n119 n122) != 0) = false →
  ∃ a129 : Addr, p1 = some a129 ∧ (0 : Int) ≤ n18 ∧ n18 < (l1 : Int) ∧
  ∃ n130 : Int, (∀ w, D_2 w → w.cell? (Addr.add a129 (n18.toNat * 1)) = some (.int .u64 n130)) ∧
  ((decide (n130 ≥ n2)) = true →
  n23 ≠ 0 ∧
  ((n18 != (Int.tmod (IntKind.i64.wrap n3) n23)) = true →
  ∃ a144 : Addr, p0 = some a144 ∧ (0 : Int) ≤ n18 ∧ n18 < (l0 : Int) ∧
  ∃ s145 : ByteArray, (∀ w, D_2 w → w.cell? (Addr.add a144 (n18.toNat * 1)) = some (.string s145)) ∧
  Calls Tryd.prog 13 #[.string s145] w15 fun e_7 w16 => ∃ s146 : ByteArray, e_7 = .returned (.string s146) ∧
  D_2 w16 ∧
  ∃ n148 : Int, (∀ x0, x0 = w16 → (Instr.index 9 (.string s146) (.int .i64 n17)).run Tryd.prog x0 = .ok (.int .u8 n148) x0) ∧
  ∃ n151 : Int, (∀ w, D_2 w → (Instr.index 9 (.string s78_0) (.int .i64 n17)).run Tryd.prog w = .ok (.int .u8 n151) w) ∧
  (((bits2 .andNot .u8 n148 n151) != 0) = true →
  R (.bool false) w16) ∧
  (((bits2 .andNot .u8 n148 n151) != 0) = false →
  K_2 [.int .i64 (IntKind.i64.wrap (n18 + 1))] w16)) ∧
  ((n18 != (Int.tmod (IntKind.i64.wrap n3) n23)) = false →
  K_2 [.int .i64 (IntKind.i64.wrap (n18 + 1))] w15)) ∧
  ((decide (n130 ≥ n2)) = false →
  K_2 [.int .i64 (IntKind.i64.wrap (n18 + 1))] w15))) ∧
  ((decide (n109 ≥ n2)) = false →
  ∃ a129_1 : Addr, p1 = some a129_1 ∧ (0 : Int) ≤ n18 ∧ n18 < (l1 : Int) ∧
  ∃ n130_1 : Int, (∀ w, D_2 w → w.cell? (Addr.add a129_1 (n18.toNat * 1)) = some (.int .u64 n130_1)) ∧
  ((decide (n130_1 ≥ n2)) = true →
  n23 ≠ 0 ∧
  ((n18 != (Int.tmod (IntKind.i64.wrap n3) n23)) = true →
  ∃ a144_1 : Addr, p0 = some a144_1 ∧ (0 : Int) ≤ n18 ∧ n18 < (l0 : Int) ∧
  ∃ s145_1 : ByteArray, (∀ w, D_2 w → w.cell? (Addr.add a144_1 (n18.toNat * 1)) = some (.string s145_1)) ∧
  Calls Tryd.prog 13 #[.string s145_1] w14.drew fun e_8 w17 => ∃ s146_1 : ByteArray, e_8 = .returned (.string s146_1) ∧
  D_2 w17 ∧
  ∃ n148_1 : Int, (∀ x0, x0 = w17 → (Instr.index 9 (.string s146_1) (.int .i64 n17)).run Tryd.prog x0 = .ok (.int .u8 n148_1) x0) ∧
  ∃ n151_1 : Int, (∀ w, D_2 w → (Instr.index 9 (.string s78_0) (.int .i64 n17)).run Tryd.prog w = .ok (.int .u8 n151_1) w) ∧
  (((bits2 .andNot .u8 n148_1 n151_1) != 0) = true →
  R (.bool false) w17) ∧
  (((bits2 .andNot .u8 n148_1 n151_1) != 0) = false →
  K_2 [.int .i64 (IntKind.i64.wrap (n18 + 1))] w17)) ∧
  ((n18 != (Int.tmod (IntKind.i64.wrap n3) n23)) = false →
  K_2 [.int .i64 (IntKind.i64.wrap (n18 + 1))] w14.drew)) ∧
  ((decide (n130_1 ≥ n2)) = false →
  K_2 [.int .i64 (IntKind.i64.wrap (n18 + 1))] w14.drew))) ∧
  ((decide (n18 < n23)) = false →
  K_1 [.int .i64 (IntKind.i64.wrap (n17 + 1))] w14))) ∧
  ((decide (n17 < 8)) = false →
  Calls Tryd.prog 6 #[] w13 fun e_9 w18 => ∃ b156 : Bool, e_9 = .returned (.bool b156) ∧
  R (.bool b156) w18)))) fun J =>
  ((decide (n23 > 0)) = true →
  n23 ≠ 0 ∧
  ∃ a72 : Addr, p10 = some a72 ∧ (0 : Int) ≤ Int.tmod (IntKind.i64.wrap n3) n23 ∧ (Int.tmod (IntKind.i64.wrap n3) n23) < (l10 : Int) ∧
  ∃ p73 : Option Addr, w10.cell? (Addr.add a72 ((Int.tmod (IntKind.i64.wrap n3) n23).toNat * 1)) = some (.pointer p73) ∧
  Calls Tryd.prog 15 #[.pointer p73] w10 fun e_10 w19 => e_10 = .returned (.tuple #[]) ∧
  J [] w19) ∧
  ((decide (n23 > 0)) = false →
  J [] w10))
theorem revetmentlaw11_PagesJoined_eq (p0 : Option Addr) (l0 c0 : Nat) (p1 : Option Addr) (l1 c1 : Nat) (n2 : Int) (n3 : Int) (w : World) (R : Value → World → Prop) : revetmentlaw11_PagesJoined p0 l0 c0 p1 l1 c1 n2 n3 w R = fnP Tryd.prog Tryd.f4 (.s .o (.s .o (.s .o (.s (.s .o (.b (.l [(10, .one .slice), (11, .one (.int .i64))] .o))) (.s .o (.j [] .o (.s .o (.s .o (.s (.s .o (.b (.l [(17, .one (.int .i64))] (.s .o (.s (.b (.s .o (.s .o (.b (.l [(18, .one (.int .i64))] .o))))) .o))))) .o))))))))) [.slice p0 l0 c0, .slice p1 l1 c1, .int .u64 n2, .int .u8 n3] w R := by kernel_rfl
theorem revetmentlaw11_PagesJoined_calls {p0 : Option Addr} {l0 c0 : Nat} {p1 : Option Addr} {l1 c1 : Nat} {n2 : Int} {n3 : Int} {w : World} {R : Value → World → Prop} (h : revetmentlaw11_PagesJoined p0 l0 c0 p1 l1 c1 n2 n3 w R) : Calls Tryd.prog 4 #[.slice p0 l0 c0, .slice p1 l1 c1, .int .u64 n2, .int .u8 n3] w fun e w1 => ∃ v, e = .returned v ∧ R v w1 := fnP_calls callable Tryd.func4 (revetmentlaw11_PagesJoined_eq p0 l0 c0 p1 l1 c1 n2 n3 w R ▸ h)

/-- revetment/revetmentlaw11.PagesAll -/
def revetmentlaw11_PagesAll (n0 : Int) (s1 : ByteArray) (p2 : Option Addr) (l2 c2 : Nat) (w : World) (R : Value → World → Prop) : Prop :=
  ((decide ((s1.size : Int) > 100)) = true →
  Calls Tryd.prog 6 #[] w fun e w1 => ∃ b28 : Bool, e = .returned (.bool b28) ∧
  R (.bool b28) w1) ∧
  ((decide ((s1.size : Int) > 100)) = false →
  ((decide ((l2 : Int) > 10)) = true →
  Calls Tryd.prog 6 #[] w fun e_1 w2 => ∃ b28_1 : Bool, e_1 = .returned (.bool b28_1) ∧
  R (.bool b28_1) w2) ∧
  ((decide ((l2 : Int) > 10)) = false →
  Calls Tryd.prog 6 #[] w fun e_2 w3 => ∃ b25 : Bool, e_2 = .returned (.bool b25) ∧
  ((!b25) = true →
  Calls Tryd.prog 6 #[] w3 fun e_3 w4 => ∃ b28_2 : Bool, e_3 = .returned (.bool b28_2) ∧
  R (.bool b28_2) w4) ∧
  ((!b25) = false →
  Alloc #[] 39 w3 fun k29 w5 =>
  LoopP (fun I => I [.slice (some ⟨k29, 0, none⟩) 0 0, .int .i64 0, .int .i64 0] w5) fun K vs w6 => ∃ (p7 : Option Addr) (l7 c7 : Nat), ∃ n8 : Int, ∃ n9 : Int, vs = [.slice p7 l7 c7, .int .i64 n8, .int .i64 n9] ∧
  ((decide (n9 < (l2 : Int))) = true →
  Calls Tryd.prog 11 #[.int .i64 3] w6 fun e_4 w7 => ∃ p36 : Option Addr, e_4 = .returned (.pointer p36) ∧
  ((Option.isNone p36) = true →
  R (.bool false) w7) ∧
  ((Option.isNone p36) = false →
  Join (fun vs_1 w8 => ∃ n8_1 : Int, vs_1 = [.int .i64 n8_1] ∧
  Alloc #[.pointer p36, .pointer none] 39 w8 fun k49 w9 =>
  ∃ (p50 : Option Addr) (l50 c50 : Nat), ∃ w10, (builtin .append #[38, 38] 38 #[false, false] #[.slice p7 l7 c7, .slice (some ⟨k49, 0, none⟩) 2 2]).run Tryd.prog w9 = .ok (.value (.slice p50 l50 c50)) w10 ∧
  K [.slice p50 l50 c50, .int .i64 n8_1, .int .i64 (IntKind.i64.wrap (n9 + 1))] w10) fun J =>
  ∃ a41 : Addr, p2 = some a41 ∧ (0 : Int) ≤ n9 ∧ n9 < (l2 : Int) ∧
  ∃ b42 : Bool, w7.cell? (Addr.add a41 (n9.toNat * 1)) = some (.bool b42) ∧
  (b42 = true →
  Calls Tryd.prog 15 #[.pointer p36] w7 fun e_5 w11 => e_5 = .returned (.tuple #[]) ∧
  J [.int .i64 n8] w11) ∧
  (b42 = false →
  J [.int .i64 (IntKind.i64.wrap (n8 + 1))] w7))) ∧
  ((decide (n9 < (l2 : Int))) = false →
  Calls Tryd.prog 13 #[.string s1] w6 fun e_6 w12 => ∃ s55 : ByteArray, e_6 = .returned (.string s55) ∧
  Calls Tryd.prog 16 #[.slice p7 l7 c7, .agg #[.int .u64 n0, .string s55]] w12 fun e_7 w13 => ∃ n57_0 : Int, ∃ n57_1 : Int, e_7 = .returned (.tuple #[.int .i64 n57_0, .int .i64 n57_1]) ∧
  Join (fun vs_2 w14 => vs_2 = [] ∧
  LoopP (fun I_1 => I_1 [.int .i64 0] w14) fun K_1 vs_3 w15 => ∃ n13 : Int, vs_3 = [.int .i64 n13] ∧
  ((decide (n13 < (l2 : Int))) = true →
  ∃ a88 : Addr, p7 = some a88 ∧ (0 : Int) ≤ IntKind.i64.wrap (2 * n13) ∧ (IntKind.i64.wrap (2 * n13)) < (l7 : Int) ∧
  ∃ p89 : Option Addr, w15.cell? (Addr.add a88 ((IntKind.i64.wrap (2 * n13)).toNat * 1)) = some (.pointer p89) ∧
  Calls Tryd.prog 17 #[.pointer p89] w15 fun e_8 w16 => ∃ n90_0_0 : Int, ∃ s90_0_1 : ByteArray, ∃ n90_1 : Int, e_8 = .returned (.tuple #[.agg #[.int .u64 n90_0_0, .string s90_0_1], .int .i64 n90_1]) ∧
  Alloc #[.int .u64 0, .string (ByteArray.mk #[])] 24 w16 fun k14 w17 =>
  St ⟨k14, 0, none⟩ (.int .u64 n90_0_0) w17 fun w18 =>
  St ⟨k14, 1, none⟩ (.string s90_0_1) w18 fun w19 =>
  ∃ D : World → Prop, D w19.drew ∧
  ∃ a95 : Addr, p2 = some a95 ∧ (0 : Int) ≤ n13 ∧ n13 < (l2 : Int) ∧
  ∃ b96 : Bool, (∀ w, D w → w.cell? (Addr.add a95 (n13.toNat * 1)) = some (.bool b96)) ∧
  ((!(b96 == (n90_1 == 40))) = true →
  R (.bool false) w19.drew) ∧
  ((!(b96 == (n90_1 == 40))) = false →
  ∃ a103 : Addr, p2 = some a103 ∧ (0 : Int) ≤ n13 ∧ n13 < (l2 : Int) ∧
  ∃ b104 : Bool, (∀ w, D w → w.cell? (Addr.add a103 (n13.toNat * 1)) = some (.bool b104)) ∧
  ((!b104) = true →
  ((n90_1 != 0) = true →
  R (.bool false) w19.drew) ∧
  ((n90_1 != 0) = false →
  ∃ n111 : Int, (∀ w, D w → w.cell? ⟨k14, 0, none⟩ = some (.int .u64 n111)) ∧
  ((n111 != n0) = true →
  R (.bool false) w19.drew) ∧
  ((n111 != n0) = false →
  ∃ s117 : ByteArray, (∀ w, D w → w.cell? ⟨k14, 1, none⟩ = some (.string s117)) ∧
  Calls Tryd.prog 13 #[.string s1] w19.drew fun e_9 w20 => ∃ s119 : ByteArray, e_9 = .returned (.string s119) ∧
  D w20 ∧
  ((!(s117.toList == s119.toList)) = true →
  R (.bool false) w20) ∧
  ((!(s117.toList == s119.toList)) = false →
  K_1 [.int .i64 (IntKind.i64.wrap (n13 + 1))] w20)))) ∧
  ((!b104) = false →
  K_1 [.int .i64 (IntKind.i64.wrap (n13 + 1))] w19.drew))) ∧
  ((decide (n13 < (l2 : Int))) = false →
  R (.bool true) w15)) fun J_1 =>
  ((n57_0 != n8) = true →
  R (.bool false) w13) ∧
  ((n57_0 != n8) = false →
  ((!((n57_1 == 0) == (decide (n8 > 0)))) = true →
  R (.bool false) w13) ∧
  ((!((n57_1 == 0) == (decide (n8 > 0)))) = false →
  ((n57_1 != 0) = true →
  ((n57_1 != 60) = true →
  R (.bool false) w13) ∧
  ((n57_1 != 60) = false →
  J_1 [] w13)) ∧
  ((n57_1 != 0) = false →
  J_1 [] w13)))))))
theorem revetmentlaw11_PagesAll_eq (n0 : Int) (s1 : ByteArray) (p2 : Option Addr) (l2 c2 : Nat) (w : World) (R : Value → World → Prop) : revetmentlaw11_PagesAll n0 s1 p2 l2 c2 w R = fnP Tryd.prog Tryd.f5 (.s .o (.s .o (.s .o (.s .o (.s (.s .o (.b (.l [(7, .one .slice), (8, .one (.int .i64)), (9, .one (.int .i64))] (.s .o (.s (.b (.s .o (.s .o (.j [(8, .one (.int .i64))] .o .o)))) .o))))) (.s .o (.j [] .o (.s (.s .o (.b (.l [(13, .one (.int .i64))] .o))) .o)))))))) [.int .u64 n0, .string s1, .slice p2 l2 c2] w R := by kernel_rfl
theorem revetmentlaw11_PagesAll_calls {n0 : Int} {s1 : ByteArray} {p2 : Option Addr} {l2 c2 : Nat} {w : World} {R : Value → World → Prop} (h : revetmentlaw11_PagesAll n0 s1 p2 l2 c2 w R) : Calls Tryd.prog 5 #[.int .u64 n0, .string s1, .slice p2 l2 c2] w fun e w1 => ∃ v, e = .returned v ∧ R v w1 := fnP_calls callable Tryd.func5 (revetmentlaw11_PagesAll_eq n0 s1 p2 l2 c2 w R ▸ h)

/-- revetment/revetmentlaw11.shown -/
def revetmentlaw11_shown (w : World) (R : Value → World → Prop) : Prop :=
  Calls Tryd.prog 11 #[.int .i64 4] w fun e w1 => ∃ p4 : Option Addr, e = .returned (.pointer p4) ∧
  ((Option.isNone p4) = true →
  R (.bool false) w1) ∧
  ((Option.isNone p4) = false →
  Calls Tryd.prog 13 #[.string (ByteArray.mk #[97])] w1 fun e_1 w2 => ∃ s9 : ByteArray, e_1 = .returned (.string s9) ∧
  Calls Tryd.prog 12 #[.pointer p4, .agg #[.int .u64 5, .string s9]] w2 fun e_2 w3 => ∃ n11 : Int, e_2 = .returned (.int .i64 n11) ∧
  ((n11 != 0) = true →
  R (.bool false) w3) ∧
  ((n11 != 0) = false →
  Calls Tryd.prog 17 #[.pointer p4] w3 fun e_3 w4 => ∃ n16_0_0 : Int, ∃ s16_0_1 : ByteArray, ∃ n16_1 : Int, e_3 = .returned (.tuple #[.agg #[.int .u64 n16_0_0, .string s16_0_1], .int .i64 n16_1]) ∧
  Alloc #[.int .u64 0, .string (ByteArray.mk #[])] 24 w4 fun k2 w5 =>
  St ⟨k2, 0, none⟩ (.int .u64 n16_0_0) w5 fun w6 =>
  St ⟨k2, 1, none⟩ (.string s16_0_1) w6 fun w7 =>
  ∃ D : World → Prop, D w7.drew ∧
  ((n16_1 == 0) = true →
  ∃ n23 : Int, (∀ w, D w → w.cell? ⟨k2, 0, none⟩ = some (.int .u64 n23)) ∧
  ((n23 == 5) = true →
  ∃ s28 : ByteArray, (∀ w, D w → w.cell? ⟨k2, 1, none⟩ = some (.string s28)) ∧
  Calls Tryd.prog 13 #[.string (ByteArray.mk #[97])] w7.drew fun e_4 w8 => ∃ s29 : ByteArray, e_4 = .returned (.string s29) ∧
  D w8 ∧
  R (.bool (s28.toList == s29.toList)) w8) ∧
  ((n23 == 5) = false →
  R (.bool false) w7.drew)) ∧
  ((n16_1 == 0) = false →
  R (.bool false) w7.drew)))
theorem revetmentlaw11_shown_eq (w : World) (R : Value → World → Prop) : revetmentlaw11_shown w R = fnP Tryd.prog Tryd.f6 .o [] w R := by kernel_rfl
theorem revetmentlaw11_shown_calls {w : World} {R : Value → World → Prop} (h : revetmentlaw11_shown w R) : Calls Tryd.prog 6 #[] w fun e w1 => ∃ v, e = .returned v ∧ R v w1 := fnP_calls callable Tryd.func6 (revetmentlaw11_shown_eq w R ▸ h)

/-- revetment/pages.Encode -/
def pages_Encode (n0_0 : Int) (s0_1 : ByteArray) (w : World) (R : Value → World → Prop) : Prop :=
  Alloc #[.int .u64 n0_0, .string s0_1] 24 w fun k1 w1 =>
  ∃ s9 : ByteArray, w1.cell? ⟨k1, 1, none⟩ = some (.string s9) ∧
  (((s9.size : Int) != 8) = true →
  R (.tuple #[.string (ByteArray.mk #[]), .int .i64 1]) w1) ∧
  (((s9.size : Int) != 8) = false →
  ∃ n14 : Int, w1.cell? ⟨k1, 0, none⟩ = some (.int .u64 n14) ∧
  Alloc #[.int .u64 n14] 22 w1 fun k15 w2 =>
  Alloc #[.int .i64 8] 3 w2 fun k16 w3 =>
  Calls Tryd.prog 18 #[.slice (some ⟨k15, 0, none⟩) 1 1, .slice (some ⟨k16, 0, none⟩) 1 1] w3 fun e w4 => ∃ s17_0 : ByteArray, ∃ n17_1 : Int, e = .returned (.tuple #[.string s17_0, .int .i64 n17_1]) ∧
  (((ByteArray.mk #[82, 86, 84, 66]).size + s17_0.size : Nat) : Int) ≤ 9223372036854775807 ∧
  ∃ s24 : ByteArray, w4.cell? ⟨k1, 1, none⟩ = some (.string s24) ∧
  ((((ByteArray.mk #[82, 86, 84, 66]) ++ s17_0).size + s24.size : Nat) : Int) ≤ 9223372036854775807 ∧
  Calls Tryd.prog 19 #[.string (((ByteArray.mk #[82, 86, 84, 66]) ++ s17_0) ++ s24), .int .i64 64] w4 fun e_1 w5 => ∃ s26_0 : ByteArray, ∃ b26_1 : Bool, e_1 = .returned (.tuple #[.string s26_0, .bool b26_1]) ∧
  R (.tuple #[.string s26_0, .int .i64 0]) w5)
theorem pages_Encode_eq (n0_0 : Int) (s0_1 : ByteArray) (w : World) (R : Value → World → Prop) : pages_Encode n0_0 s0_1 w R = fnP Tryd.prog Tryd.f7 .o [.agg #[.int .u64 n0_0, .string s0_1]] w R := by kernel_rfl
theorem pages_Encode_calls {n0_0 : Int} {s0_1 : ByteArray} {w : World} {R : Value → World → Prop} (h : pages_Encode n0_0 s0_1 w R) : Calls Tryd.prog 7 #[.agg #[.int .u64 n0_0, .string s0_1]] w fun e w1 => ∃ v, e = .returned v ∧ R v w1 := fnP_calls callable Tryd.func7 (pages_Encode_eq n0_0 s0_1 w R ▸ h)

/-- revetment/pages.Decode -/
def pages_Decode (s0 : ByteArray) (w : World) (R : Value → World → Prop) : Prop :=
  Alloc #[.int .u64 0, .string (ByteArray.mk #[])] 24 w fun k2 w1 =>
  (((s0.size : Int) != 64) = true →
  St ⟨k2, 0, none⟩ (.int .u64 0) w1 fun w2 =>
  St ⟨k2, 1, none⟩ (.string (ByteArray.mk #[])) w2 fun w3 =>
  ∃ nr2_0 : Int, ∃ sr2_1 : ByteArray, (w3.cell? ⟨k2, 0, none⟩ = some (.int .u64 nr2_0) ∧ w3.cell? ⟨k2, 1, none⟩ = some (.string sr2_1)) ∧
  R (.tuple #[.agg #[.int .u64 nr2_0, .string sr2_1], .int .i64 31]) w3) ∧
  (((s0.size : Int) != 64) = false →
  Calls Tryd.prog 22 #[.string s0] w1 fun e w4 => ∃ s14_0 : ByteArray, ∃ b14_1 : Bool, e = .returned (.tuple #[.string s14_0, .bool b14_1]) ∧
  ((!b14_1) = true →
  St ⟨k2, 0, none⟩ (.int .u64 0) w4 fun w5 =>
  St ⟨k2, 1, none⟩ (.string (ByteArray.mk #[])) w5 fun w6 =>
  ∃ nr2_0_1 : Int, ∃ sr2_1_1 : ByteArray, (w6.cell? ⟨k2, 0, none⟩ = some (.int .u64 nr2_0_1) ∧ w6.cell? ⟨k2, 1, none⟩ = some (.string sr2_1_1)) ∧
  R (.tuple #[.agg #[.int .u64 nr2_0_1, .string sr2_1_1], .int .i64 80]) w6) ∧
  ((!b14_1) = false →
  Calls Tryd.prog 23 #[.string s14_0, .string (ByteArray.mk #[82, 86, 84, 66])] w4 fun e_1 w7 => ∃ s22_0 : ByteArray, ∃ b22_1 : Bool, e_1 = .returned (.tuple #[.string s22_0, .bool b22_1]) ∧
  ((!b22_1) = true →
  St ⟨k2, 0, none⟩ (.int .u64 0) w7 fun w8 =>
  St ⟨k2, 1, none⟩ (.string (ByteArray.mk #[])) w8 fun w9 =>
  ∃ nr2_0_2 : Int, ∃ sr2_1_2 : ByteArray, (w9.cell? ⟨k2, 0, none⟩ = some (.int .u64 nr2_0_2) ∧ w9.cell? ⟨k2, 1, none⟩ = some (.string sr2_1_2)) ∧
  R (.tuple #[.agg #[.int .u64 nr2_0_2, .string sr2_1_2], .int .i64 81]) w9) ∧
  ((!b22_1) = false →
  ∃ s31 : ByteArray, ∃ w10, (Instr.sliceAt 9 (.string s22_0) (some (.int .i64 16)) none none).run Tryd.prog w7 = .ok (.string s31) w10 ∧
  Calls Tryd.prog 24 #[.string s31, .string (ByteArray.mk #[0])] w10 fun e_2 w11 => ∃ s32 : ByteArray, e_2 = .returned (.string s32) ∧
  ((!(s32.toList == (ByteArray.mk #[]).toList)) = true →
  St ⟨k2, 0, none⟩ (.int .u64 0) w11 fun w12 =>
  St ⟨k2, 1, none⟩ (.string (ByteArray.mk #[])) w12 fun w13 =>
  ∃ nr2_0_3 : Int, ∃ sr2_1_3 : ByteArray, (w13.cell? ⟨k2, 0, none⟩ = some (.int .u64 nr2_0_3) ∧ w13.cell? ⟨k2, 1, none⟩ = some (.string sr2_1_3)) ∧
  R (.tuple #[.agg #[.int .u64 nr2_0_3, .string sr2_1_3], .int .i64 1]) w13) ∧
  ((!(s32.toList == (ByteArray.mk #[]).toList)) = false →
  ∃ s37 : ByteArray, ∃ w14, (Instr.sliceAt 9 (.string s22_0) none (some (.int .i64 8)) none).run Tryd.prog w11 = .ok (.string s37) w14 ∧
  Alloc #[.int .i64 8] 3 w14 fun k38 w15 =>
  Calls Tryd.prog 25 #[.string s37, .slice (some ⟨k38, 0, none⟩) 1 1] w15 fun e_3 w16 => ∃ (p39_0 : Option Addr) (l39_0 c39_0 : Nat), ∃ n39_1 : Int, e_3 = .returned (.tuple #[.slice p39_0 l39_0 c39_0, .int .i64 n39_1]) ∧
  ((n39_1 != 0) = true →
  St ⟨k2, 0, none⟩ (.int .u64 0) w16 fun w17 =>
  St ⟨k2, 1, none⟩ (.string (ByteArray.mk #[])) w17 fun w18 =>
  ∃ nr2_0_4 : Int, ∃ sr2_1_4 : ByteArray, (w18.cell? ⟨k2, 0, none⟩ = some (.int .u64 nr2_0_4) ∧ w18.cell? ⟨k2, 1, none⟩ = some (.string sr2_1_4)) ∧
  R (.tuple #[.agg #[.int .u64 nr2_0_4, .string sr2_1_4], .int .i64 n39_1]) w18) ∧
  ((n39_1 != 0) = false →
  ∃ D : World → Prop, D w16.drew ∧
  ∃ a47 : Addr, p39_0 = some a47 ∧ (0 : Int) ≤ 0 ∧ 0 < (l39_0 : Int) ∧
  ∃ n48 : Int, (∀ w, D w → w.cell? a47 = some (.int .u64 n48)) ∧
  ∃ s50 : ByteArray, (∀ w, D w → (Instr.sliceAt 9 (.string s22_0) (some (.int .i64 8)) (some (.int .i64 16)) none).run Tryd.prog w = .ok (.string s50) w) ∧
  St ⟨k2, 0, none⟩ (.int .u64 n48) w16.drew fun w19 =>
  St ⟨k2, 1, none⟩ (.string s50) w19 fun w20 =>
  D w20 ∧
  ∃ nr2_0_5 : Int, ∃ sr2_1_5 : ByteArray, (w20.cell? ⟨k2, 0, none⟩ = some (.int .u64 nr2_0_5) ∧ w20.cell? ⟨k2, 1, none⟩ = some (.string sr2_1_5)) ∧
  R (.tuple #[.agg #[.int .u64 nr2_0_5, .string sr2_1_5], .int .i64 0]) w20)))))
theorem pages_Decode_eq (s0 : ByteArray) (w : World) (R : Value → World → Prop) : pages_Decode s0 w R = fnP Tryd.prog Tryd.f9 .o [.string s0] w R := by kernel_rfl
theorem pages_Decode_calls {s0 : ByteArray} {w : World} {R : Value → World → Prop} (h : pages_Decode s0 w R) : Calls Tryd.prog 9 #[.string s0] w fun e w1 => ∃ v, e = .returned v ∧ R v w1 := fnP_calls callable Tryd.func9 (pages_Decode_eq s0 w R ▸ h)

/-- revetment/pages.Save -/
def pages_Save (p0 : Option Addr) (n1_0 : Int) (s1_1 : ByteArray) (w : World) (R : Value → World → Prop) : Prop :=
  Alloc #[.pointer p0] 39 w fun k2 w1 =>
  Alloc #[.int .u64 n1_0, .string s1_1] 24 w1 fun k3 w2 =>
  ∃ n10_0 : Int, ∃ s10_1 : ByteArray, (w2.cell? ⟨k3, 0, none⟩ = some (.int .u64 n10_0) ∧ w2.cell? ⟨k3, 1, none⟩ = some (.string s10_1)) ∧
  Calls Tryd.prog 7 #[.agg #[.int .u64 n10_0, .string s10_1]] w2 fun e w3 => ∃ s11_0 : ByteArray, ∃ n11_1 : Int, e = .returned (.tuple #[.string s11_0, .int .i64 n11_1]) ∧
  Alloc #[.string (ByteArray.mk #[])] 9 w3 fun k5 w4 =>
  St ⟨k5, 0, none⟩ (.string s11_0) w4 fun w5 =>
  Alloc #[.func (.func 28) #[] #[.pointer (some ⟨k2, 0, none⟩), .pointer (some ⟨k5, 0, none⟩)], .func (.func 30) #[] #[.pointer (some ⟨k2, 0, none⟩)]] 65 w5 fun k16 w6 =>
  LoopP (fun I => I [.int .i64 n11_1, .int .i64 0] w6) fun K vs w7 => ∃ n6 : Int, ∃ n18 : Int, vs = [.int .i64 n6, .int .i64 n18] ∧
  ((decide (n18 < (2 : Int))) = true →
  ∃ a20 : Addr, (some ⟨k16, 0, none⟩) = some a20 ∧ (0 : Int) ≤ n18 ∧ n18 < (2 : Int) ∧
  ∃ v21 : Value, w7.cell? (Addr.add a20 (n18.toNat * 1)) = some (v21) ∧
  ((n6 == 0) = true →
  CallF Tryd.prog v21 [] w7 fun e_1 w8 => ∃ n25 : Int, e_1 = .returned (.int .i64 n25) ∧
  K [.int .i64 n25, .int .i64 (IntKind.i64.wrap (n18 + 1))] w8) ∧
  ((n6 == 0) = false →
  K [.int .i64 n6, .int .i64 (IntKind.i64.wrap (n18 + 1))] w7)) ∧
  ((decide (n18 < (2 : Int))) = false →
  R (.int .i64 n6) w7)
theorem pages_Save_eq (p0 : Option Addr) (n1_0 : Int) (s1_1 : ByteArray) (w : World) (R : Value → World → Prop) : pages_Save p0 n1_0 s1_1 w R = fnP Tryd.prog Tryd.f12 (.s .o (.s .o (.s (.s .o (.b (.l [(6, .one (.int .i64)), (18, .one (.int .i64))] .o))) .o))) [.pointer p0, .agg #[.int .u64 n1_0, .string s1_1]] w R := by kernel_rfl
theorem pages_Save_calls {p0 : Option Addr} {n1_0 : Int} {s1_1 : ByteArray} {w : World} {R : Value → World → Prop} (h : pages_Save p0 n1_0 s1_1 w R) : Calls Tryd.prog 12 #[.pointer p0, .agg #[.int .u64 n1_0, .string s1_1]] w fun e w1 => ∃ v, e = .returned v ∧ R v w1 := fnP_calls callable Tryd.func12 (pages_Save_eq p0 n1_0 s1_1 w R ▸ h)

/-- revetment/revetmentlaw11.bits -/
def revetmentlaw11_bits (s0 : ByteArray) (w : World) (R : Value → World → Prop) : Prop :=
  ((s0.size + (ByteArray.mk #[0, 0, 0, 0, 0, 0, 0, 0]).size : Nat) : Int) ≤ 9223372036854775807 ∧
  ∃ s5 : ByteArray, ∃ w1, (Instr.sliceAt 9 (.string (s0 ++ (ByteArray.mk #[0, 0, 0, 0, 0, 0, 0, 0]))) none (some (.int .i64 8)) none).run Tryd.prog w = .ok (.string s5) w1 ∧
  R (.string s5) w1
theorem revetmentlaw11_bits_eq (s0 : ByteArray) (w : World) (R : Value → World → Prop) : revetmentlaw11_bits s0 w R = fnP Tryd.prog Tryd.f13 .o [.string s0] w R := by kernel_rfl
theorem revetmentlaw11_bits_calls {s0 : ByteArray} {w : World} {R : Value → World → Prop} (h : revetmentlaw11_bits s0 w R) : Calls Tryd.prog 13 #[.string s0] w fun e w1 => ∃ v, e = .returned v ∧ R v w1 := fnP_calls callable Tryd.func13 (revetmentlaw11_bits_eq s0 w R ▸ h)

/-- revetment/pages.Join -/
def pages_Join (p0 : Option Addr) (l0 c0 : Nat) (n1 : Int) (w : World) (R : Value → World → Prop) : Prop :=
  Alloc #[.int .u64 n1] 22 w fun k3 w1 =>
  Alloc #[.int .u8 0, .int .u8 0, .int .u8 0, .int .u8 0, .int .u8 0, .int .u8 0, .int .u8 0, .int .u8 0] 67 w1 fun k6 w2 =>
  Alloc #[.bool false] 4 w2 fun k7 w3 =>
  St ⟨k7, 0, none⟩ (.bool false) w3 fun w4 =>
  Calls Tryd.prog 32 #[.slice p0 l0 c0] w4 fun e w5 => ∃ v13 : Value, e = .returned v13 ∧
  RangeP Tryd.prog v13 (fun ob l args W Φ => ∃ p14 : Option Addr, args = [.pointer p14] ∧
  RoundP ob l Φ (fun K X R w6 =>
  Calls Tryd.prog 17 #[.pointer p14] w6 fun e_1 w7 => ∃ n17_0_0 : Int, ∃ s17_0_1 : ByteArray, ∃ n17_1 : Int, e_1 = .returned (.tuple #[.agg #[.int .u64 n17_0_0, .string s17_0_1], .int .i64 n17_1]) ∧
  Alloc #[.int .u64 0, .string (ByteArray.mk #[])] 24 w7 fun k9 w8 =>
  St ⟨k9, 0, none⟩ (.int .u64 n17_0_0) w8 fun w9 =>
  St ⟨k9, 1, none⟩ (.string s17_0_1) w9 fun w10 =>
  ((n17_1 != 0) = true →
  K w10) ∧
  ((n17_1 != 0) = false →
  ∃ n24 : Int, w10.cell? ⟨k9, 0, none⟩ = some (.int .u64 n24) ∧
  ∃ n25 : Int, w10.cell? ⟨k3, 0, none⟩ = some (.int .u64 n25) ∧
  ((decide (n24 < n25)) = true →
  K w10) ∧
  ((decide (n24 < n25)) = false →
  St ⟨k7, 0, none⟩ (.bool true) w10 fun w11 =>
  LoopP (fun I => I [.int .i64 0] w11) fun K_1 vs w12 => ∃ n28 : Int, vs = [.int .i64 n28] ∧
  ((decide (n28 < 8)) = true →
  ∃ D : World → Prop, D w12.drew ∧
  (0 : Int) ≤ n28 ∧ n28 < (8 : Int) ∧
  ∃ n33 : Int, (∀ w, D w → w.cell? (Addr.add ⟨k6, 0, none⟩ (n28.toNat * 1)) = some (.int .u8 n33)) ∧
  ∃ s35 : ByteArray, (∀ w, D w → w.cell? ⟨k9, 1, none⟩ = some (.string s35)) ∧
  ∃ n37 : Int, (∀ w, D w → (Instr.index 9 (.string s35) (.int .i64 n28)).run Tryd.prog w = .ok (.int .u8 n37) w) ∧
  (0 : Int) ≤ n28 ∧ n28 < (8 : Int) ∧
  St (Addr.add ⟨k6, 0, none⟩ (n28.toNat * 1)) (.int .u8 (bits2 .or .u8 n33 n37)) w12.drew fun w13 =>
  K_1 [.int .i64 (IntKind.i64.wrap (n28 + 1))] w13) ∧
  ((decide (n28 < 8)) = false →
  K w12)))) W) []
  (fun d w14 =>
  ∃ D_1 : World → Prop, D_1 w14.drew ∧
  ∃ (p41 : Option Addr) (l41 c41 : Nat), (∀ w, D_1 w → (Instr.sliceAt 67 (.pointer (some ⟨k6, 0, none⟩)) none none none).run Tryd.prog w = .ok (.slice p41 l41 c41) w) ∧
  ∃ s42 : ByteArray, (∀ w, D_1 w → (convert 71 9 (.slice p41 l41 c41)).run Tryd.prog w = .ok (.string s42) w) ∧
  ∃ b43 : Bool, (∀ w, D_1 w → w.cell? ⟨k7, 0, none⟩ = some (.bool b43)) ∧
  w14.drew.heap[d]? = some (.deferred (some [])) ∧
  R (.tuple #[.string s42, .bool b43]) (w14.drew.putObj d (.deferred none)))
  (fun d_1 w15 =>
  w15.heap[d_1]? = some (.deferred (some [])) ∧
  R (.tuple #[.string (ByteArray.mk #[]), .bool false]) (w15.putObj d_1 (.deferred none))) w5
theorem pages_Join_eq (p0 : Option Addr) (l0 c0 : Nat) (n1 : Int) (w : World) (R : Value → World → Prop) : pages_Join p0 l0 c0 n1 w R = fnP Tryd.prog Tryd.f14 (.s .o (.s .o (.s .o (.s (.s .o (.b (.rf [(14, .one .ptr)] (.b (.s .o (.s .o (.s .o (.s .o (.b (.l [(28, .one (.int .i64))] .o)))))))))) .o)))) [.slice p0 l0 c0, .int .u64 n1] w R := by kernel_rfl
theorem pages_Join_calls {p0 : Option Addr} {l0 c0 : Nat} {n1 : Int} {w : World} {R : Value → World → Prop} (h : pages_Join p0 l0 c0 n1 w R) : Calls Tryd.prog 14 #[.slice p0 l0 c0, .int .u64 n1] w fun e w1 => ∃ v, e = .returned v ∧ R v w1 := fnP_calls callable Tryd.func14 (pages_Join_eq p0 l0 c0 n1 w R ▸ h)

/-- revetment/pages.All -/
def pages_All (p0 : Option Addr) (l0 c0 : Nat) (n1_0 : Int) (s1_1 : ByteArray) (w : World) (R : Value → World → Prop) : Prop :=
  Alloc #[.int .u64 n1_0, .string s1_1] 24 w fun k3 w1 =>
  ∃ n11_0 : Int, ∃ s11_1 : ByteArray, (w1.cell? ⟨k3, 0, none⟩ = some (.int .u64 n11_0) ∧ w1.cell? ⟨k3, 1, none⟩ = some (.string s11_1)) ∧
  Calls Tryd.prog 7 #[.agg #[.int .u64 n11_0, .string s11_1]] w1 fun e w2 => ∃ s12_0 : ByteArray, ∃ n12_1 : Int, e = .returned (.tuple #[.string s12_0, .int .i64 n12_1]) ∧
  ((n12_1 != 0) = true →
  R (.tuple #[.int .i64 0, .int .i64 n12_1]) w2) ∧
  ((n12_1 != 0) = false →
  Alloc #[.int .i64 0] 3 w2 fun k8 w3 =>
  St ⟨k8, 0, none⟩ (.int .i64 0) w3 fun w4 =>
  Calls Tryd.prog 32 #[.slice p0 l0 c0] w4 fun e_1 w5 => ∃ v19 : Value, e_1 = .returned v19 ∧
  RangeP Tryd.prog v19 (fun ob l args W Φ => ∃ p20 : Option Addr, args = [.pointer p20] ∧
  RoundP ob l Φ (fun K X R w6 =>
  ∃ n22_0 : Int, ∃ s22_1 : ByteArray, (w6.cell? ⟨k3, 0, none⟩ = some (.int .u64 n22_0) ∧ w6.cell? ⟨k3, 1, none⟩ = some (.string s22_1)) ∧
  Calls Tryd.prog 12 #[.pointer p20, .agg #[.int .u64 n22_0, .string s22_1]] w6 fun e_2 w7 => ∃ n23 : Int, e_2 = .returned (.int .i64 n23) ∧
  ((n23 == 0) = true →
  ∃ n25 : Int, w7.cell? ⟨k8, 0, none⟩ = some (.int .i64 n25) ∧
  St ⟨k8, 0, none⟩ (.int .i64 (IntKind.i64.wrap (n25 + 1))) w7 fun w8 =>
  K w8) ∧
  ((n23 == 0) = false →
  K w7)) W) []
  (fun d w9 =>
  ∃ n27 : Int, w9.cell? ⟨k8, 0, none⟩ = some (.int .i64 n27) ∧
  ((n27 == 0) = true →
  w9.heap[d]? = some (.deferred (some [])) ∧
  R (.tuple #[.int .i64 0, .int .i64 60]) (w9.putObj d (.deferred none))) ∧
  ((n27 == 0) = false →
  ∃ n29 : Int, w9.cell? ⟨k8, 0, none⟩ = some (.int .i64 n29) ∧
  w9.heap[d]? = some (.deferred (some [])) ∧
  R (.tuple #[.int .i64 n29, .int .i64 0]) (w9.putObj d (.deferred none))))
  (fun d_1 w10 =>
  w10.heap[d_1]? = some (.deferred (some [])) ∧
  R (.tuple #[.int .i64 0, .int .i64 0]) (w10.putObj d_1 (.deferred none))) w5)
theorem pages_All_eq (p0 : Option Addr) (l0 c0 : Nat) (n1_0 : Int) (s1_1 : ByteArray) (w : World) (R : Value → World → Prop) : pages_All p0 l0 c0 n1_0 s1_1 w R = fnP Tryd.prog Tryd.f16 (.s .o (.s .o (.s .o (.s (.s .o (.b (.rf [(20, .one .ptr)] .o))) .o)))) [.slice p0 l0 c0, .agg #[.int .u64 n1_0, .string s1_1]] w R := by kernel_rfl
theorem pages_All_calls {p0 : Option Addr} {l0 c0 : Nat} {n1_0 : Int} {s1_1 : ByteArray} {w : World} {R : Value → World → Prop} (h : pages_All p0 l0 c0 n1_0 s1_1 w R) : Calls Tryd.prog 16 #[.slice p0 l0 c0, .agg #[.int .u64 n1_0, .string s1_1]] w fun e w1 => ∃ v, e = .returned v ∧ R v w1 := fnP_calls callable Tryd.func16 (pages_All_eq p0 l0 c0 n1_0 s1_1 w R ▸ h)

/-- revetment/pages.Load -/
def pages_Load (p0 : Option Addr) (w : World) (R : Value → World → Prop) : Prop :=
  Alloc #[.int .u64 0, .string (ByteArray.mk #[])] 24 w fun k2 w1 =>
  Calls Tryd.prog 33 #[.pointer p0, .int .i64 2] w1 fun e w2 => ∃ s8_0 : ByteArray, ∃ n8_1 : Int, e = .returned (.tuple #[.string s8_0, .int .i64 n8_1]) ∧
  ((n8_1 != 0) = true →
  St ⟨k2, 0, none⟩ (.int .u64 0) w2 fun w3 =>
  St ⟨k2, 1, none⟩ (.string (ByteArray.mk #[])) w3 fun w4 =>
  ∃ nr2_0 : Int, ∃ sr2_1 : ByteArray, (w4.cell? ⟨k2, 0, none⟩ = some (.int .u64 nr2_0) ∧ w4.cell? ⟨k2, 1, none⟩ = some (.string sr2_1)) ∧
  R (.tuple #[.agg #[.int .u64 nr2_0, .string sr2_1], .int .i64 n8_1]) w4) ∧
  ((n8_1 != 0) = false →
  Calls Tryd.prog 9 #[.string s8_0] w2 fun e_1 w5 => ∃ n16_0_0 : Int, ∃ s16_0_1 : ByteArray, ∃ n16_1 : Int, e_1 = .returned (.tuple #[.agg #[.int .u64 n16_0_0, .string s16_0_1], .int .i64 n16_1]) ∧
  St ⟨k2, 0, none⟩ (.int .u64 n16_0_0) w5 fun w6 =>
  St ⟨k2, 1, none⟩ (.string s16_0_1) w6 fun w7 =>
  ∃ nr2_0_1 : Int, ∃ sr2_1_1 : ByteArray, (w7.cell? ⟨k2, 0, none⟩ = some (.int .u64 nr2_0_1) ∧ w7.cell? ⟨k2, 1, none⟩ = some (.string sr2_1_1)) ∧
  R (.tuple #[.agg #[.int .u64 nr2_0_1, .string sr2_1_1], .int .i64 n16_1]) w7)
theorem pages_Load_eq (p0 : Option Addr) (w : World) (R : Value → World → Prop) : pages_Load p0 w R = fnP Tryd.prog Tryd.f17 .o [.pointer p0] w R := by kernel_rfl
theorem pages_Load_calls {p0 : Option Addr} {w : World} {R : Value → World → Prop} (h : pages_Load p0 w R) : Calls Tryd.prog 17 #[.pointer p0] w fun e w1 => ∃ v, e = .returned v ∧ R v w1 := fnP_calls callable Tryd.func17 (pages_Load_eq p0 w R ▸ h)

/-- revetment/pack.Encode -/
def pack_Encode (p0 : Option Addr) (l0 c0 : Nat) (p1 : Option Addr) (l1 c1 : Nat) (w : World) (R : Value → World → Prop) : Prop :=
  Alloc #[.slice p0 l0 c0] 37 w fun k2 w1 =>
  Calls Tryd.prog 34 #[.slice p1 l1 c1] w1 fun e w2 => ∃ n15_0 : Int, ∃ n15_1 : Int, e = .returned (.tuple #[.int .i64 n15_0, .int .i64 n15_1]) ∧
  ((n15_1 != 0) = true →
  R (.tuple #[.string (ByteArray.mk #[]), .int .i64 n15_1]) w2) ∧
  ((n15_1 != 0) = false →
  ∃ (p23 : Option Addr) (l23 c23 : Nat), w2.cell? ⟨k2, 0, none⟩ = some (.slice p23 l23 c23) ∧
  (((l23 : Int) != (l1 : Int)) = true →
  R (.tuple #[.string (ByteArray.mk #[]), .int .i64 1]) w2) ∧
  (((l23 : Int) != (l1 : Int)) = false →
  LoopP (fun I => I [.string (ByteArray.mk #[]), .int .i64 0, .int .i64 0] w2) fun K vs w3 => ∃ s4 : ByteArray, ∃ n5 : Int, ∃ n30 : Int, vs = [.string s4, .int .i64 n5, .int .i64 n30] ∧
  ((decide (n30 < (l1 : Int))) = true →
  ∃ a33 : Addr, p1 = some a33 ∧ (0 : Int) ≤ n30 ∧ n30 < (l1 : Int) ∧
  ∃ n34 : Int, w3.cell? (Addr.add a33 (n30.toNat * 1)) = some (.int .i64 n34) ∧
  ∃ (p35 : Option Addr) (l35 c35 : Nat), w3.cell? ⟨k2, 0, none⟩ = some (.slice p35 l35 c35) ∧
  ∃ a37 : Addr, p35 = some a37 ∧ (0 : Int) ≤ n30 ∧ n30 < (l35 : Int) ∧
  ∃ n38 : Int, w3.cell? (Addr.add a37 (n30.toNat * 1)) = some (.int .u64 n38) ∧
  Calls Tryd.prog 35 #[.int .u64 n38, .int .i64 n34] w3 fun e_1 w4 => ∃ b40 : Bool, e_1 = .returned (.bool b40) ∧
  ((!b40) = true →
  R (.tuple #[.string (ByteArray.mk #[]), .int .i64 30]) w4) ∧
  ((!b40) = false →
  K [.string s4, .int .i64 n5, .int .i64 (IntKind.i64.wrap (n30 + 1))] w4)) ∧
  ((decide (n30 < (l1 : Int))) = false →
  ∃ (p44 : Option Addr) (l44 c44 : Nat), ∃ w5, (Instr.makeSlice 71 (.int .i64 0) (.int .i64 n15_0)).run Tryd.prog w3 = .ok (.slice p44 l44 c44) w5 ∧
  Alloc #[.slice none 0 0] 71 w5 fun k10 w6 =>
  St ⟨k10, 0, none⟩ (.slice p44 l44 c44) w6 fun w7 =>
  Calls Tryd.prog 36 #[.slice p1 l1 c1] w7 fun e_2 w8 => ∃ v46 : Value, e_2 = .returned v46 ∧
  RangeP Tryd.prog v46 (fun ob l args W Φ => ∃ n47 : Int, ∃ n48 : Int, args = [.int .i64 n47, .int .i64 n48] ∧
  RoundP ob l Φ (fun K_1 X R w9 =>
  ∃ D : World → Prop, D w9.drew ∧
  ∃ (p49 : Option Addr) (l49 c49 : Nat), (∀ w, D w → w.cell? ⟨k10, 0, none⟩ = some (.slice p49 l49 c49)) ∧
  ∃ (p50 : Option Addr) (l50 c50 : Nat), (∀ w, D w → w.cell? ⟨k2, 0, none⟩ = some (.slice p50 l50 c50)) ∧
  ∃ a52 : Addr, p50 = some a52 ∧ (0 : Int) ≤ n47 ∧ n47 < (l50 : Int) ∧
  ∃ n53 : Int, (∀ w, D w → w.cell? (Addr.add a52 (n47.toNat * 1)) = some (.int .u64 n53)) ∧
  (0 : Int) ≤ n48 ∧
  Alloc #[.int .u8 (IntKind.u8.wrap (Int.fdiv n53 (2 ^ (min n48.toNat 64))))] 5 w9.drew fun k57 w10 =>
  D w10 ∧
  ∃ (p58 : Option Addr) (l58 c58 : Nat), ∃ w11, (builtin .append #[71, 71] 71 #[false, false] #[.slice p49 l49 c49, .slice (some ⟨k57, 0, none⟩) 1 1]).run Tryd.prog w10 = .ok (.value (.slice p58 l58 c58)) w11 ∧
  D w11 ∧
  St ⟨k10, 0, none⟩ (.slice p58 l58 c58) w11 fun w12 =>
  K_1 w12) W) []
  (fun d w13 =>
  ∃ (p59 : Option Addr) (l59 c59 : Nat), w13.cell? ⟨k10, 0, none⟩ = some (.slice p59 l59 c59) ∧
  ∃ s60 : ByteArray, ∃ w14, (convert 71 9 (.slice p59 l59 c59)).run Tryd.prog w13 = .ok (.string s60) w14 ∧
  w14.heap[d]? = some (.deferred (some [])) ∧
  R (.tuple #[.string s60, .int .i64 0]) (w14.putObj d (.deferred none)))
  (fun d_1 w15 =>
  w15.heap[d_1]? = some (.deferred (some [])) ∧
  R (.tuple #[.string s4, .int .i64 n5]) (w15.putObj d_1 (.deferred none))) w8)))
theorem pack_Encode_eq (p0 : Option Addr) (l0 c0 : Nat) (p1 : Option Addr) (l1 c1 : Nat) (w : World) (R : Value → World → Prop) : pack_Encode p0 l0 c0 p1 l1 c1 w R = fnP Tryd.prog Tryd.f18 (.s .o (.s .o (.s .o (.s (.s .o (.b (.l [(4, .one .str), (5, .one (.int .i64)), (30, .one (.int .i64))] .o))) (.s .o (.s (.s .o (.b (.rf [(47, .one (.int .i64)), (48, .one (.int .i64))] .o))) .o)))))) [.slice p0 l0 c0, .slice p1 l1 c1] w R := by kernel_rfl
theorem pack_Encode_calls {p0 : Option Addr} {l0 c0 : Nat} {p1 : Option Addr} {l1 c1 : Nat} {w : World} {R : Value → World → Prop} (h : pack_Encode p0 l0 c0 p1 l1 c1 w R) : Calls Tryd.prog 18 #[.slice p0 l0 c0, .slice p1 l1 c1] w fun e w1 => ∃ v, e = .returned v ∧ R v w1 := fnP_calls callable Tryd.func18 (pack_Encode_eq p0 l0 c0 p1 l1 c1 w R ▸ h)

/-- revetment/crc.Seal -/
def crc_Seal (s0 : ByteArray) (n1 : Int) (w : World) (R : Value → World → Prop) : Prop :=
  ((decide (n1 < 4)) = true →
  R (.tuple #[.string (ByteArray.mk #[]), .bool false]) w) ∧
  ((decide (n1 < 4)) = false →
  ((decide (n1 > 4096)) = true →
  R (.tuple #[.string (ByteArray.mk #[]), .bool false]) w) ∧
  ((decide (n1 > 4096)) = false →
  ((decide ((s0.size : Int) > (IntKind.i64.wrap (n1 - 4)))) = true →
  R (.tuple #[.string (ByteArray.mk #[]), .bool false]) w) ∧
  ((decide ((s0.size : Int) > (IntKind.i64.wrap (n1 - 4)))) = false →
  ∃ (p22 : Option Addr) (l22 c22 : Nat), ∃ w1, (Instr.makeSlice 71 (.int .i64 (IntKind.i64.wrap (n1 - 4))) (.int .i64 (IntKind.i64.wrap (n1 - 4)))).run Tryd.prog w = .ok (.slice p22 l22 c22) w1 ∧
  ∃ n25 : Int, ∃ w2, (builtin .copy #[71, 9] 3 #[false, false] #[.slice p22 l22 c22, .string s0]).run Tryd.prog w1 = .ok (.value (.int .i64 n25)) w2 ∧
  ∃ s28 : ByteArray, ∃ w3, (convert 71 9 (.slice p22 l22 c22)).run Tryd.prog w2 = .ok (.string s28) w3 ∧
  Calls Tryd.prog 38 #[.string s28] w3 fun e w4 => ∃ n29 : Int, e = .returned (.int .u32 n29) ∧
  Calls Tryd.prog 37 #[.int .u32 n29] w4 fun e_1 w5 => ∃ (p30 : Option Addr) (l30 c30 : Nat), e_1 = .returned (.slice p30 l30 c30) ∧
  ∃ (p31 : Option Addr) (l31 c31 : Nat), ∃ w6, (builtin .append #[71, 71] 71 #[false, false] #[.slice p22 l22 c22, .slice p30 l30 c30]).run Tryd.prog w5 = .ok (.value (.slice p31 l31 c31)) w6 ∧
  ∃ s32 : ByteArray, ∃ w7, (convert 71 9 (.slice p31 l31 c31)).run Tryd.prog w6 = .ok (.string s32) w7 ∧
  R (.tuple #[.string s32, .bool true]) w7)))
theorem crc_Seal_eq (s0 : ByteArray) (n1 : Int) (w : World) (R : Value → World → Prop) : crc_Seal s0 n1 w R = fnP Tryd.prog Tryd.f19 .o [.string s0, .int .i64 n1] w R := by kernel_rfl
theorem crc_Seal_calls {s0 : ByteArray} {n1 : Int} {w : World} {R : Value → World → Prop} (h : crc_Seal s0 n1 w R) : Calls Tryd.prog 19 #[.string s0, .int .i64 n1] w fun e w1 => ∃ v, e = .returned v ∧ R v w1 := fnP_calls callable Tryd.func19 (crc_Seal_eq s0 n1 w R ▸ h)

/-- revetment/crc.Open -/
def crc_Open (s0 : ByteArray) (w : World) (R : Value → World → Prop) : Prop :=
  ∃ D : World → Prop, D w.drew ∧
  ((decide ((IntKind.i64.wrap ((s0.size : Int) - 4)) < 0)) = true →
  R (.tuple #[.string (ByteArray.mk #[]), .bool false]) w.drew) ∧
  ((decide ((IntKind.i64.wrap ((s0.size : Int) - 4)) < 0)) = false →
  ∃ s13 : ByteArray, (∀ w, D w → (Instr.sliceAt 9 (.string s0) none (some (.int .i64 (IntKind.i64.wrap ((s0.size : Int) - 4)))) none).run Tryd.prog w = .ok (.string s13) w) ∧
  Calls Tryd.prog 38 #[.string s13] w.drew fun e w1 => ∃ n14 : Int, e = .returned (.int .u32 n14) ∧
  D w1 ∧
  Calls Tryd.prog 37 #[.int .u32 n14] w1 fun e_1 w2 => ∃ (p15 : Option Addr) (l15 c15 : Nat), e_1 = .returned (.slice p15 l15 c15) ∧
  D w2 ∧
  ∃ s16 : ByteArray, (∀ x0, x0 = w2 → (convert 71 9 (.slice p15 l15 c15)).run Tryd.prog x0 = .ok (.string s16) x0) ∧
  ∃ s19 : ByteArray, (∀ w, D w → (Instr.sliceAt 9 (.string s0) (some (.int .i64 (IntKind.i64.wrap ((s0.size : Int) - 4)))) none none).run Tryd.prog w = .ok (.string s19) w) ∧
  ((!(s16.toList == s19.toList)) = true →
  R (.tuple #[.string (ByteArray.mk #[]), .bool false]) w2) ∧
  ((!(s16.toList == s19.toList)) = false →
  ∃ s24 : ByteArray, ∃ w3, (Instr.sliceAt 9 (.string s0) none (some (.int .i64 (IntKind.i64.wrap ((s0.size : Int) - 4)))) none).run Tryd.prog w2 = .ok (.string s24) w3 ∧
  R (.tuple #[.string s24, .bool true]) w3))
theorem crc_Open_eq (s0 : ByteArray) (w : World) (R : Value → World → Prop) : crc_Open s0 w R = fnP Tryd.prog Tryd.f22 .o [.string s0] w R := by kernel_rfl
theorem crc_Open_calls {s0 : ByteArray} {w : World} {R : Value → World → Prop} (h : crc_Open s0 w R) : Calls Tryd.prog 22 #[.string s0] w fun e w1 => ∃ v, e = .returned v ∧ R v w1 := fnP_calls callable Tryd.func22 (crc_Open_eq s0 w R ▸ h)

/-- strings.CutPrefix -/
def strings_CutPrefix (s0 : ByteArray) (s1 : ByteArray) (w : World) (R : Value → World → Prop) : Prop :=
  Calls Tryd.prog 43 #[.string s0, .string s1] w fun e w1 => ∃ s8_0 : ByteArray, ∃ b8_1 : Bool, e = .returned (.tuple #[.string s8_0, .bool b8_1]) ∧
  R (.tuple #[.string s8_0, .bool b8_1]) w1
theorem strings_CutPrefix_eq (s0 : ByteArray) (s1 : ByteArray) (w : World) (R : Value → World → Prop) : strings_CutPrefix s0 s1 w R = fnP Tryd.prog Tryd.f23 .o [.string s0, .string s1] w R := by kernel_rfl
theorem strings_CutPrefix_calls {s0 : ByteArray} {s1 : ByteArray} {w : World} {R : Value → World → Prop} (h : strings_CutPrefix s0 s1 w R) : Calls Tryd.prog 23 #[.string s0, .string s1] w fun e w1 => ∃ v, e = .returned v ∧ R v w1 := fnP_calls callable Tryd.func23 (strings_CutPrefix_eq s0 s1 w R ▸ h)

/-- strings.Trim -/
def strings_Trim (s0 : ByteArray) (s1 : ByteArray) (w : World) (R : Value → World → Prop) : Prop :=
  ((s0.toList == (ByteArray.mk #[]).toList) = true →
  R (.string s0) w) ∧
  ((s0.toList == (ByteArray.mk #[]).toList) = false →
  ((s1.toList == (ByteArray.mk #[]).toList) = true →
  R (.string s0) w) ∧
  ((s1.toList == (ByteArray.mk #[]).toList) = false →
  Join (fun vs w1 => vs = [] ∧
  Calls Tryd.prog 46 #[.string s1] w1 fun e w2 => ∃ z31_0 : Array Value, z31_0.size = 256 ∧ ∃ b31_1 : Bool, e = .returned (.tuple #[.agg z31_0, .bool b31_1]) ∧
  Alloc ((zc Tryd.prog 84).getD #[]) 84 w2 fun k5 w3 =>
  ∃ w4, (Instr.storeAt 84 (.pointer (some ⟨k5, 0, none⟩)) (.agg z31_0)).run Tryd.prog w3 = .ok () w4 ∧
  (b31_1 = true →
  Calls Tryd.prog 48 #[.string s0, .pointer (some ⟨k5, 0, none⟩)] w4 fun e_1 w5 => ∃ s36 : ByteArray, e_1 = .returned (.string s36) ∧
  Calls Tryd.prog 47 #[.string s36, .pointer (some ⟨k5, 0, none⟩)] w5 fun e_2 w6 => ∃ s37 : ByteArray, e_2 = .returned (.string s37) ∧
  R (.string s37) w6) ∧
  (b31_1 = false →
  Calls Tryd.prog 50 #[.string s0, .string s1] w4 fun e_3 w7 => ∃ s40 : ByteArray, e_3 = .returned (.string s40) ∧
  Calls Tryd.prog 49 #[.string s40, .string s1] w7 fun e_4 w8 => ∃ s42 : ByteArray, e_4 = .returned (.string s42) ∧
  R (.string s42) w8)) fun J =>
  (((s1.size : Int) == 1) = true →
  ∃ n19 : Int, ∃ w9, (Instr.index 9 (.string s1) (.int .i64 0)).run Tryd.prog w = .ok (.int .u8 n19) w9 ∧
  ((decide (n19 < 128)) = true →
  ∃ D : World → Prop, D w9.drew ∧
  ∃ n24 : Int, (∀ w, D w → (Instr.index 9 (.string s1) (.int .i64 0)).run Tryd.prog w = .ok (.int .u8 n24) w) ∧
  Calls Tryd.prog 45 #[.string s0, .int .u8 n24] w9.drew fun e_5 w10 => ∃ s25 : ByteArray, e_5 = .returned (.string s25) ∧
  D w10 ∧
  ∃ n27 : Int, (∀ w, D w → (Instr.index 9 (.string s1) (.int .i64 0)).run Tryd.prog w = .ok (.int .u8 n27) w) ∧
  Calls Tryd.prog 44 #[.string s25, .int .u8 n27] w10 fun e_6 w11 => ∃ s28 : ByteArray, e_6 = .returned (.string s28) ∧
  D w11 ∧
  R (.string s28) w11) ∧
  ((decide (n19 < 128)) = false →
  J [] w9)) ∧
  (((s1.size : Int) == 1) = false →
  J [] w)))
theorem strings_Trim_eq (s0 : ByteArray) (s1 : ByteArray) (w : World) (R : Value → World → Prop) : strings_Trim s0 s1 w R = fnP Tryd.prog Tryd.f24 (.s .o (.s .o (.j [] .o .o))) [.string s0, .string s1] w R := by kernel_rfl
theorem strings_Trim_calls {s0 : ByteArray} {s1 : ByteArray} {w : World} {R : Value → World → Prop} (h : strings_Trim s0 s1 w R) : Calls Tryd.prog 24 #[.string s0, .string s1] w fun e w1 => ∃ v, e = .returned v ∧ R v w1 := fnP_calls callable Tryd.func24 (strings_Trim_eq s0 s1 w R ▸ h)

/-- revetment/pack.Decode -/
def pack_Decode (s0 : ByteArray) (p1 : Option Addr) (l1 c1 : Nat) (w : World) (R : Value → World → Prop) : Prop :=
  Alloc #[.string s0] 9 w fun k2 w1 =>
  Calls Tryd.prog 34 #[.slice p1 l1 c1] w1 fun e w2 => ∃ n13_0 : Int, ∃ n13_1 : Int, e = .returned (.tuple #[.int .i64 n13_0, .int .i64 n13_1]) ∧
  ((n13_1 != 0) = true →
  R (.tuple #[.slice none 0 0, .int .i64 n13_1]) w2) ∧
  ((n13_1 != 0) = false →
  ∃ s21 : ByteArray, w2.cell? ⟨k2, 0, none⟩ = some (.string s21) ∧
  (((s21.size : Int) != n13_0) = true →
  R (.tuple #[.slice none 0 0, .int .i64 31]) w2) ∧
  (((s21.size : Int) != n13_0) = false →
  ∃ (p27 : Option Addr) (l27 c27 : Nat), ∃ w3, (Instr.makeSlice 37 (.int .i64 (l1 : Int)) (.int .i64 (l1 : Int))).run Tryd.prog w2 = .ok (.slice p27 l27 c27) w3 ∧
  Alloc #[.slice none 0 0] 37 w3 fun k8 w4 =>
  St ⟨k8, 0, none⟩ (.slice p27 l27 c27) w4 fun w5 =>
  Calls Tryd.prog 36 #[.slice p1 l1 c1] w5 fun e_1 w6 => ∃ v29 : Value, e_1 = .returned v29 ∧
  RangeP Tryd.prog v29 (fun ob l args W Φ => ∃ n30 : Int, ∃ n31 : Int, args = [.int .i64 n30, .int .i64 n31] ∧
  RoundP ob l Φ (fun K X R w7 =>
  ∃ D : World → Prop, D w7.drew ∧
  ∃ (p32 : Option Addr) (l32 c32 : Nat), (∀ w, D w → w.cell? ⟨k8, 0, none⟩ = some (.slice p32 l32 c32)) ∧
  ∃ a34 : Addr, p32 = some a34 ∧ (0 : Int) ≤ n30 ∧ n30 < (l32 : Int) ∧
  ∃ n35 : Int, (∀ w, D w → w.cell? (Addr.add a34 (n30.toNat * 1)) = some (.int .u64 n35)) ∧
  ∃ s36 : ByteArray, (∀ w, D w → w.cell? ⟨k2, 0, none⟩ = some (.string s36)) ∧
  ∃ n37 : Int, (∀ w, D w → (Instr.index 9 (.string s36) (.int .i64 0)).run Tryd.prog w = .ok (.int .u8 n37) w) ∧
  (0 : Int) ≤ n31 ∧
  ∃ a42 : Addr, p32 = some a42 ∧ (0 : Int) ≤ n30 ∧ n30 < (l32 : Int) ∧
  St (Addr.add a42 (n30.toNat * 1)) (.int .u64 (bits2 .or .u64 n35 (IntKind.u64.wrap ((IntKind.u64.wrap n37) * 2 ^ (min n31.toNat 64))))) w7.drew fun w8 =>
  ∃ s43 : ByteArray, w8.cell? ⟨k2, 0, none⟩ = some (.string s43) ∧
  ∃ s44 : ByteArray, ∃ w9, (Instr.sliceAt 9 (.string s43) (some (.int .i64 1)) none none).run Tryd.prog w8 = .ok (.string s44) w9 ∧
  St ⟨k2, 0, none⟩ (.string s44) w9 fun w10 =>
  K w10) W) []
  (fun d w11 =>
  ∃ (p45 : Option Addr) (l45 c45 : Nat), w11.cell? ⟨k8, 0, none⟩ = some (.slice p45 l45 c45) ∧
  w11.heap[d]? = some (.deferred (some [])) ∧
  R (.tuple #[.slice p45 l45 c45, .int .i64 0]) (w11.putObj d (.deferred none)))
  (fun d_1 w12 =>
  w12.heap[d_1]? = some (.deferred (some [])) ∧
  R (.tuple #[.slice none 0 0, .int .i64 0]) (w12.putObj d_1 (.deferred none))) w6))
theorem pack_Decode_eq (s0 : ByteArray) (p1 : Option Addr) (l1 c1 : Nat) (w : World) (R : Value → World → Prop) : pack_Decode s0 p1 l1 c1 w R = fnP Tryd.prog Tryd.f25 (.s .o (.s .o (.s .o (.s .o (.s (.s .o (.b (.rf [(30, .one (.int .i64)), (31, .one (.int .i64))] .o))) .o))))) [.string s0, .slice p1 l1 c1] w R := by kernel_rfl
theorem pack_Decode_calls {s0 : ByteArray} {p1 : Option Addr} {l1 c1 : Nat} {w : World} {R : Value → World → Prop} (h : pack_Decode s0 p1 l1 c1 w R) : Calls Tryd.prog 25 #[.string s0, .slice p1 l1 c1] w fun e w1 => ∃ v, e = .returned v ∧ R v w1 := fnP_calls callable Tryd.func25 (pack_Decode_eq s0 p1 l1 c1 w R ▸ h)

/-- revetment/pages.Save$1 -/
def pages_Save_1 (k0 : Addr) (k1 : Addr) (w : World) (R : Value → World → Prop) : Prop :=
  ∃ p3 : Option Addr, w.cell? k0 = some (.pointer p3) ∧
  ∃ s4 : ByteArray, w.cell? k1 = some (.string s4) ∧
  Calls Tryd.prog 29 #[.pointer p3, .int .i64 2, .string s4] w fun e w1 => ∃ n5 : Int, e = .returned (.int .i64 n5) ∧
  R (.int .i64 n5) w1
theorem pages_Save_1_eq (k0 : Addr) (k1 : Addr) (w : World) (R : Value → World → Prop) : pages_Save_1 k0 k1 w R = fnP Tryd.prog Tryd.f28 .o [.pointer (some k0), .pointer (some k1)] w R := by kernel_rfl
theorem pages_Save_1_calls {k0 : Addr} {k1 : Addr} {w : World} {R : Value → World → Prop} (h : pages_Save_1 k0 k1 w R) : Calls Tryd.prog 28 #[.pointer (some k0), .pointer (some k1)] w fun e w1 => ∃ v, e = .returned v ∧ R v w1 := fnP_calls callable Tryd.func28 (pages_Save_1_eq k0 k1 w R ▸ h)

/-- revetment/pages.Save$2 -/
def pages_Save_2 (k0 : Addr) (w : World) (R : Value → World → Prop) : Prop :=
  ∃ p2 : Option Addr, w.cell? k0 = some (.pointer p2) ∧
  Calls Tryd.prog 31 #[.pointer p2] w fun e w1 => ∃ n3 : Int, e = .returned (.int .i64 n3) ∧
  R (.int .i64 n3) w1
theorem pages_Save_2_eq (k0 : Addr) (w : World) (R : Value → World → Prop) : pages_Save_2 k0 w R = fnP Tryd.prog Tryd.f30 .o [.pointer (some k0)] w R := by kernel_rfl
theorem pages_Save_2_calls {k0 : Addr} {w : World} {R : Value → World → Prop} (h : pages_Save_2 k0 w R) : Calls Tryd.prog 30 #[.pointer (some k0)] w fun e w1 => ∃ v, e = .returned v ∧ R v w1 := fnP_calls callable Tryd.func30 (pages_Save_2_eq k0 w R ▸ h)

/-- revetment/pages.drives -/
def pages_drives (p0 : Option Addr) (l0 c0 : Nat) (w : World) (R : Value → World → Prop) : Prop :=
  Alloc #[.slice p0 l0 c0] 38 w fun k1 w1 =>
  R (.func (.func 56) #[] #[.pointer (some ⟨k1, 0, none⟩)]) w1
theorem pages_drives_eq (p0 : Option Addr) (l0 c0 : Nat) (w : World) (R : Value → World → Prop) : pages_drives p0 l0 c0 w R = fnP Tryd.prog Tryd.f32 .o [.slice p0 l0 c0] w R := by kernel_rfl
theorem pages_drives_calls {p0 : Option Addr} {l0 c0 : Nat} {w : World} {R : Value → World → Prop} (h : pages_drives p0 l0 c0 w R) : Calls Tryd.prog 32 #[.slice p0 l0 c0] w fun e w1 => ∃ v, e = .returned v ∧ R v w1 := fnP_calls callable Tryd.func32 (pages_drives_eq p0 l0 c0 w R ▸ h)

/-- revetment/pack.Size -/
def pack_Size (p0 : Option Addr) (l0 c0 : Nat) (w : World) (R : Value → World → Prop) : Prop :=
  LoopP (fun I => I [.int .i64 0, .int .i64 0] w) fun K vs w1 => ∃ n4 : Int, ∃ n9 : Int, vs = [.int .i64 n4, .int .i64 n9] ∧
  ((decide (n9 < (l0 : Int))) = true →
  ∃ a11 : Addr, p0 = some a11 ∧ (0 : Int) ≤ n9 ∧ n9 < (l0 : Int) ∧
  ∃ n12 : Int, w1.cell? (Addr.add a11 (n9.toNat * 1)) = some (.int .i64 n12) ∧
  ((decide (n12 < 1)) = true →
  R (.tuple #[.int .i64 0, .int .i64 1]) w1) ∧
  ((decide (n12 < 1)) = false →
  ((decide (n12 > 8)) = true →
  R (.tuple #[.int .i64 0, .int .i64 1]) w1) ∧
  ((decide (n12 > 8)) = false →
  K [.int .i64 (IntKind.i64.wrap (n4 + n12)), .int .i64 (IntKind.i64.wrap (n9 + 1))] w1))) ∧
  ((decide (n9 < (l0 : Int))) = false →
  ((decide ((l0 : Int) > 64)) = true →
  R (.tuple #[.int .i64 0, .int .i64 1]) w1) ∧
  ((decide ((l0 : Int) > 64)) = false →
  R (.tuple #[.int .i64 n4, .int .i64 0]) w1))
theorem pack_Size_eq (p0 : Option Addr) (l0 c0 : Nat) (w : World) (R : Value → World → Prop) : pack_Size p0 l0 c0 w R = fnP Tryd.prog Tryd.f34 (.s .o (.s .o (.s (.s .o (.b (.l [(4, .one (.int .i64)), (9, .one (.int .i64))] .o))) .o))) [.slice p0 l0 c0] w R := by kernel_rfl
theorem pack_Size_calls {p0 : Option Addr} {l0 c0 : Nat} {w : World} {R : Value → World → Prop} (h : pack_Size p0 l0 c0 w R) : Calls Tryd.prog 34 #[.slice p0 l0 c0] w fun e w1 => ∃ v, e = .returned v ∧ R v w1 := fnP_calls callable Tryd.func34 (pack_Size_eq p0 l0 c0 w R ▸ h)

/-- revetment/pack.Fits -/
def pack_Fits (n0 : Int) (n1 : Int) (w : World) (R : Value → World → Prop) : Prop :=
  ((n1 == 8) = true →
  R (.bool true) w) ∧
  ((n1 == 8) = false →
  ((decide (n1 > 0)) = true →
  ((decide (n1 < 8)) = true →
  (0 : Int) ≤ (IntKind.i64.wrap (8 * n1)) ∧
  R (.bool ((Int.fdiv n0 (2 ^ (min (IntKind.i64.wrap (8 * n1)).toNat 64))) == 0)) w) ∧
  ((decide (n1 < 8)) = false →
  R (.bool false) w)) ∧
  ((decide (n1 > 0)) = false →
  R (.bool false) w))
theorem pack_Fits_eq (n0 : Int) (n1 : Int) (w : World) (R : Value → World → Prop) : pack_Fits n0 n1 w R = fnP Tryd.prog Tryd.f35 .o [.int .u64 n0, .int .i64 n1] w R := by kernel_rfl
theorem pack_Fits_calls {n0 : Int} {n1 : Int} {w : World} {R : Value → World → Prop} (h : pack_Fits n0 n1 w R) : Calls Tryd.prog 35 #[.int .u64 n0, .int .i64 n1] w fun e w1 => ∃ v, e = .returned v ∧ R v w1 := fnP_calls callable Tryd.func35 (pack_Fits_eq n0 n1 w R ▸ h)

/-- revetment/pack.places -/
def pack_places (p0 : Option Addr) (l0 c0 : Nat) (w : World) (R : Value → World → Prop) : Prop :=
  Alloc #[.slice p0 l0 c0] 52 w fun k1 w1 =>
  R (.func (.func 58) #[] #[.pointer (some ⟨k1, 0, none⟩)]) w1
theorem pack_places_eq (p0 : Option Addr) (l0 c0 : Nat) (w : World) (R : Value → World → Prop) : pack_places p0 l0 c0 w R = fnP Tryd.prog Tryd.f36 .o [.slice p0 l0 c0] w R := by kernel_rfl
theorem pack_places_calls {p0 : Option Addr} {l0 c0 : Nat} {w : World} {R : Value → World → Prop} (h : pack_places p0 l0 c0 w R) : Calls Tryd.prog 36 #[.slice p0 l0 c0] w fun e w1 => ∃ v, e = .returned v ∧ R v w1 := fnP_calls callable Tryd.func36 (pack_places_eq p0 l0 c0 w R ▸ h)

/-- revetment/crc.bytes -/
def crc_bytes (n0 : Int) (w : World) (R : Value → World → Prop) : Prop :=
  Alloc #[.int .u8 (IntKind.u8.wrap n0), .int .u8 (IntKind.u8.wrap (Int.fdiv n0 (2 ^ 8))), .int .u8 (IntKind.u8.wrap (Int.fdiv n0 (2 ^ 16))), .int .u8 (IntKind.u8.wrap (Int.fdiv n0 (2 ^ 24)))] 5 w fun k14 w1 =>
  R (.slice (some ⟨k14, 0, none⟩) 4 4) w1
theorem crc_bytes_eq (n0 : Int) (w : World) (R : Value → World → Prop) : crc_bytes n0 w R = fnP Tryd.prog Tryd.f37 .o [.int .u32 n0] w R := by kernel_rfl
theorem crc_bytes_calls {n0 : Int} {w : World} {R : Value → World → Prop} (h : crc_bytes n0 w R) : Calls Tryd.prog 37 #[.int .u32 n0] w fun e w1 => ∃ v, e = .returned v ∧ R v w1 := fnP_calls callable Tryd.func37 (crc_bytes_eq n0 w R ▸ h)

/-- revetment/crc.Sum -/
def crc_Sum (s0 : ByteArray) (w : World) (R : Value → World → Prop) : Prop :=
  Calls Tryd.prog 59 #[.int .u32 0, .string s0] w fun e w1 => ∃ n4 : Int, e = .returned (.int .u32 n4) ∧
  R (.int .u32 n4) w1
theorem crc_Sum_eq (s0 : ByteArray) (w : World) (R : Value → World → Prop) : crc_Sum s0 w R = fnP Tryd.prog Tryd.f38 .o [.string s0] w R := by kernel_rfl
theorem crc_Sum_calls {s0 : ByteArray} {w : World} {R : Value → World → Prop} (h : crc_Sum s0 w R) : Calls Tryd.prog 38 #[.string s0] w fun e w1 => ∃ v, e = .returned v ∧ R v w1 := fnP_calls callable Tryd.func38 (crc_Sum_eq s0 w R ▸ h)

/-- internal/stringslite.CutPrefix -/
def internal_stringslite_CutPrefix (s0 : ByteArray) (s1 : ByteArray) (w : World) (R : Value → World → Prop) : Prop :=
  Calls Tryd.prog 61 #[.string s0, .string s1] w fun e w1 => ∃ b8 : Bool, e = .returned (.bool b8) ∧
  ((!b8) = true →
  R (.tuple #[.string s0, .bool false]) w1) ∧
  ((!b8) = false →
  ∃ s14 : ByteArray, ∃ w2, (Instr.sliceAt 9 (.string s0) (some (.int .i64 (s1.size : Int))) none none).run Tryd.prog w1 = .ok (.string s14) w2 ∧
  R (.tuple #[.string s14, .bool true]) w2)
theorem internal_stringslite_CutPrefix_eq (s0 : ByteArray) (s1 : ByteArray) (w : World) (R : Value → World → Prop) : internal_stringslite_CutPrefix s0 s1 w R = fnP Tryd.prog Tryd.f43 .o [.string s0, .string s1] w R := by kernel_rfl
theorem internal_stringslite_CutPrefix_calls {s0 : ByteArray} {s1 : ByteArray} {w : World} {R : Value → World → Prop} (h : internal_stringslite_CutPrefix s0 s1 w R) : Calls Tryd.prog 43 #[.string s0, .string s1] w fun e w1 => ∃ v, e = .returned v ∧ R v w1 := fnP_calls callable Tryd.func43 (internal_stringslite_CutPrefix_eq s0 s1 w R ▸ h)

/-- strings.trimLeftByte -/
def strings_trimLeftByte (s0 : ByteArray) (n1 : Int) (w : World) (R : Value → World → Prop) : Prop :=
  LoopP (fun I => I [.string s0] w) fun K vs w1 => ∃ s0_1 : ByteArray, vs = [.string s0_1] ∧
  ((decide ((s0_1.size : Int) > 0)) = true →
  ∃ n10 : Int, ∃ w2, (Instr.index 9 (.string s0_1) (.int .i64 0)).run Tryd.prog w1 = .ok (.int .u8 n10) w2 ∧
  ((n10 == n1) = true →
  ∃ s15 : ByteArray, ∃ w3, (Instr.sliceAt 9 (.string s0_1) (some (.int .i64 1)) none none).run Tryd.prog w2 = .ok (.string s15) w3 ∧
  K [.string s15] w3) ∧
  ((n10 == n1) = false →
  R (.string s0_1) w2)) ∧
  ((decide ((s0_1.size : Int) > 0)) = false →
  R (.string s0_1) w1)
theorem strings_trimLeftByte_eq (s0 : ByteArray) (n1 : Int) (w : World) (R : Value → World → Prop) : strings_trimLeftByte s0 n1 w R = fnP Tryd.prog Tryd.f44 (.s .o (.s (.b (.l [(0, .one .str)] .o)) .o)) [.string s0, .int .u8 n1] w R := by kernel_rfl
theorem strings_trimLeftByte_calls {s0 : ByteArray} {n1 : Int} {w : World} {R : Value → World → Prop} (h : strings_trimLeftByte s0 n1 w R) : Calls Tryd.prog 44 #[.string s0, .int .u8 n1] w fun e w1 => ∃ v, e = .returned v ∧ R v w1 := fnP_calls callable Tryd.func44 (strings_trimLeftByte_eq s0 n1 w R ▸ h)

/-- strings.trimRightByte -/
def strings_trimRightByte (s0 : ByteArray) (n1 : Int) (w : World) (R : Value → World → Prop) : Prop :=
  LoopP (fun I => I [.string s0] w) fun K vs w1 => ∃ s0_1 : ByteArray, vs = [.string s0_1] ∧
  ((decide ((s0_1.size : Int) > 0)) = true →
  ∃ n13 : Int, ∃ w2, (Instr.index 9 (.string s0_1) (.int .i64 (IntKind.i64.wrap ((s0_1.size : Int) - 1)))).run Tryd.prog w1 = .ok (.int .u8 n13) w2 ∧
  ((n13 == n1) = true →
  ∃ s21 : ByteArray, ∃ w3, (Instr.sliceAt 9 (.string s0_1) none (some (.int .i64 (IntKind.i64.wrap ((s0_1.size : Int) - 1)))) none).run Tryd.prog w2 = .ok (.string s21) w3 ∧
  K [.string s21] w3) ∧
  ((n13 == n1) = false →
  R (.string s0_1) w2)) ∧
  ((decide ((s0_1.size : Int) > 0)) = false →
  R (.string s0_1) w1)
theorem strings_trimRightByte_eq (s0 : ByteArray) (n1 : Int) (w : World) (R : Value → World → Prop) : strings_trimRightByte s0 n1 w R = fnP Tryd.prog Tryd.f45 (.s .o (.s (.b (.l [(0, .one .str)] .o)) .o)) [.string s0, .int .u8 n1] w R := by kernel_rfl
theorem strings_trimRightByte_calls {s0 : ByteArray} {n1 : Int} {w : World} {R : Value → World → Prop} (h : strings_trimRightByte s0 n1 w R) : Calls Tryd.prog 45 #[.string s0, .int .u8 n1] w fun e w1 => ∃ v, e = .returned v ∧ R v w1 := fnP_calls callable Tryd.func45 (strings_trimRightByte_eq s0 n1 w R ▸ h)

/-- revetment/pages.drives$1 -/
def pages_drives_1 (v0 : Value) (k1 : Addr) (w : World) (R : Value → World → Prop) : Prop :=
  ∃ (p5 : Option Addr) (l5 c5 : Nat), w.cell? k1 = some (.slice p5 l5 c5) ∧
  LoopP (fun I => I [.int .i64 0] w) fun K vs w1 => ∃ n7 : Int, vs = [.int .i64 n7] ∧
  ((decide (n7 < (l5 : Int))) = true →
  ∃ a9 : Addr, p5 = some a9 ∧ (0 : Int) ≤ n7 ∧ n7 < (l5 : Int) ∧
  ∃ p10 : Option Addr, w1.cell? (Addr.add a9 (n7.toNat * 1)) = some (.pointer p10) ∧
  ((!(Option.isNone p10)) = true →
  CallF Tryd.prog v0 [.pointer p10] w1 fun e w2 => ∃ b16 : Bool, e = .returned (.bool b16) ∧
  ((!b16) = true →
  R (.tuple #[]) w2) ∧
  ((!b16) = false →
  K [.int .i64 (IntKind.i64.wrap (n7 + 1))] w2)) ∧
  ((!(Option.isNone p10)) = false →
  K [.int .i64 (IntKind.i64.wrap (n7 + 1))] w1)) ∧
  ((decide (n7 < (l5 : Int))) = false →
  R (.tuple #[]) w1)
theorem pages_drives_1_eq (v0 : Value) (k1 : Addr) (w : World) (R : Value → World → Prop) : pages_drives_1 v0 k1 w R = fnP Tryd.prog Tryd.f56 (.s .o (.b (.l [(7, .one (.int .i64))] .o))) [v0, .pointer (some k1)] w R := by kernel_rfl
theorem pages_drives_1_calls {v0 : Value} {k1 : Addr} {w : World} {R : Value → World → Prop} (h : pages_drives_1 v0 k1 w R) : Calls Tryd.prog 56 #[v0, .pointer (some k1)] w fun e w1 => ∃ v, e = .returned v ∧ R v w1 := fnP_calls callable Tryd.func56 (pages_drives_1_eq v0 k1 w R ▸ h)

/-- revetment/pack.places$1 -/
def pack_places_1 (v0 : Value) (k1 : Addr) (w : World) (R : Value → World → Prop) : Prop :=
  ∃ (p6 : Option Addr) (l6 c6 : Nat), w.cell? k1 = some (.slice p6 l6 c6) ∧
  LoopP (fun I => I [.int .i64 0] w) fun K vs w1 => ∃ n8 : Int, vs = [.int .i64 n8] ∧
  ((decide (n8 < (l6 : Int))) = true →
  ∃ a11 : Addr, p6 = some a11 ∧ (0 : Int) ≤ n8 ∧ n8 < (l6 : Int) ∧
  ∃ n12 : Int, w1.cell? (Addr.add a11 (n8.toNat * 1)) = some (.int .i64 n12) ∧
  LoopP (fun I_1 => I_1 [.int .i64 0] w1) fun K_1 vs_1 w2 => ∃ n14 : Int, vs_1 = [.int .i64 n14] ∧
  ((decide (n14 < n12)) = true →
  CallF Tryd.prog v0 [.int .i64 n8, .int .i64 (IntKind.i64.wrap (8 * n14))] w2 fun e w3 => ∃ b21 : Bool, e = .returned (.bool b21) ∧
  ((!b21) = true →
  R (.tuple #[]) w3) ∧
  ((!b21) = false →
  K_1 [.int .i64 (IntKind.i64.wrap (n14 + 1))] w3)) ∧
  ((decide (n14 < n12)) = false →
  K [.int .i64 (IntKind.i64.wrap (n8 + 1))] w2)) ∧
  ((decide (n8 < (l6 : Int))) = false →
  R (.tuple #[]) w1)
theorem pack_places_1_eq (v0 : Value) (k1 : Addr) (w : World) (R : Value → World → Prop) : pack_places_1 v0 k1 w R = fnP Tryd.prog Tryd.f58 (.s .o (.b (.l [(8, .one (.int .i64))] (.s .o (.s .o (.s (.b (.s .o (.s .o (.b (.l [(14, .one (.int .i64))] .o))))) .o)))))) [v0, .pointer (some k1)] w R := by kernel_rfl
theorem pack_places_1_calls {v0 : Value} {k1 : Addr} {w : World} {R : Value → World → Prop} (h : pack_places_1 v0 k1 w R) : Calls Tryd.prog 58 #[v0, .pointer (some k1)] w fun e w1 => ∃ v, e = .returned v ∧ R v w1 := fnP_calls callable Tryd.func58 (pack_places_1_eq v0 k1 w R ▸ h)

/-- revetment/crc.More -/
def crc_More (n0 : Int) (s1 : ByteArray) (w : World) (R : Value → World → Prop) : Prop :=
  Calls Tryd.prog 68 #[] w fun e w1 => ∃ z9 : Array Value, z9.size = 16 ∧ e = .returned (.agg z9) ∧
  Alloc #[.int .u32 0, .int .u32 0, .int .u32 0, .int .u32 0, .int .u32 0, .int .u32 0, .int .u32 0, .int .u32 0, .int .u32 0, .int .u32 0, .int .u32 0, .int .u32 0, .int .u32 0, .int .u32 0, .int .u32 0, .int .u32 0] 109 w1 fun k5 w2 =>
  ∃ w3, (Instr.storeAt 109 (.pointer (some ⟨k5, 0, none⟩)) (.agg z9)).run Tryd.prog w2 = .ok () w3 ∧
  Alloc #[.int .u32 0] 79 w3 fun k6 w4 =>
  St ⟨k6, 0, none⟩ (.int .u32 (bits2 .xor .u32 IntKind.u32.max n0)) w4 fun w5 =>
  LoopP (fun I => I [.int .i64 0] w5) fun K vs w6 => ∃ n15 : Int, vs = [.int .i64 n15] ∧
  ((decide (n15 < (s1.size : Int))) = true →
  ∃ D : World → Prop, D w6.drew ∧
  ∃ n18 : Int, (∀ w, D w → w.cell? ⟨k6, 0, none⟩ = some (.int .u32 n18)) ∧
  ∃ n21 : Int, (∀ w, D w → (Instr.index 9 (.string s1) (.int .i64 n15)).run Tryd.prog w = .ok (.int .u8 n21) w) ∧
  St ⟨k6, 0, none⟩ (.int .u32 (bits2 .xor .u32 n18 (IntKind.u32.wrap n21))) w6.drew fun w7 =>
  Calls Tryd.prog 69 #[.pointer (some ⟨k6, 0, none⟩), .pointer (some ⟨k5, 0, none⟩)] w7 fun e_1 w8 => e_1 = .returned (.tuple #[]) ∧
  Calls Tryd.prog 69 #[.pointer (some ⟨k6, 0, none⟩), .pointer (some ⟨k5, 0, none⟩)] w8 fun e_2 w9 => e_2 = .returned (.tuple #[]) ∧
  K [.int .i64 (IntKind.i64.wrap (n15 + 1))] w9) ∧
  ((decide (n15 < (s1.size : Int))) = false →
  ∃ n29 : Int, w6.cell? ⟨k6, 0, none⟩ = some (.int .u32 n29) ∧
  R (.int .u32 (bits2 .xor .u32 IntKind.u32.max n29)) w6)
theorem crc_More_eq (n0 : Int) (s1 : ByteArray) (w : World) (R : Value → World → Prop) : crc_More n0 s1 w R = fnP Tryd.prog Tryd.f59 (.s .o (.s .o (.s .o (.s .o (.s (.s .o (.b (.l [(15, .one (.int .i64))] .o))) .o))))) [.int .u32 n0, .string s1] w R := by kernel_rfl
theorem crc_More_calls {n0 : Int} {s1 : ByteArray} {w : World} {R : Value → World → Prop} (h : crc_More n0 s1 w R) : Calls Tryd.prog 59 #[.int .u32 n0, .string s1] w fun e w1 => ∃ v, e = .returned v ∧ R v w1 := fnP_calls callable Tryd.func59 (crc_More_eq n0 s1 w R ▸ h)

/-- internal/stringslite.HasPrefix -/
def internal_stringslite_HasPrefix (s0 : ByteArray) (s1 : ByteArray) (w : World) (R : Value → World → Prop) : Prop :=
  ((decide ((s0.size : Int) ≥ (s1.size : Int))) = true →
  ∃ s14 : ByteArray, ∃ w1, (Instr.sliceAt 9 (.string s0) none (some (.int .i64 (s1.size : Int))) none).run Tryd.prog w = .ok (.string s14) w1 ∧
  R (.bool (s14.toList == s1.toList)) w1) ∧
  ((decide ((s0.size : Int) ≥ (s1.size : Int))) = false →
  R (.bool false) w)
theorem internal_stringslite_HasPrefix_eq (s0 : ByteArray) (s1 : ByteArray) (w : World) (R : Value → World → Prop) : internal_stringslite_HasPrefix s0 s1 w R = fnP Tryd.prog Tryd.f61 .o [.string s0, .string s1] w R := by kernel_rfl
theorem internal_stringslite_HasPrefix_calls {s0 : ByteArray} {s1 : ByteArray} {w : World} {R : Value → World → Prop} (h : internal_stringslite_HasPrefix s0 s1 w R) : Calls Tryd.prog 61 #[.string s0, .string s1] w fun e w1 => ∃ v, e = .returned v ∧ R v w1 := fnP_calls callable Tryd.func61 (internal_stringslite_HasPrefix_eq s0 s1 w R ▸ h)

/-- revetment/crc.table -/
def crc_table (w : World) (R : Value → World → Prop) : Prop :=
  Alloc #[.int .u32 0, .int .u32 0, .int .u32 0, .int .u32 0, .int .u32 0, .int .u32 0, .int .u32 0, .int .u32 0, .int .u32 0, .int .u32 0, .int .u32 0, .int .u32 0, .int .u32 0, .int .u32 0, .int .u32 0, .int .u32 0] 109 w fun k0 w1 =>
  Alloc #[.int .u32 0, .int .u32 0, .int .u32 0, .int .u32 0, .int .u32 0, .int .u32 0, .int .u32 0, .int .u32 0, .int .u32 0, .int .u32 0, .int .u32 0, .int .u32 0, .int .u32 0, .int .u32 0, .int .u32 0, .int .u32 0] 109 w1 fun k1 w2 =>
  LoopP (fun I => I [.int .i64 0] w2) fun K vs w3 => ∃ n4 : Int, vs = [.int .i64 n4] ∧
  ((decide (n4 < 16)) = true →
  LoopP (fun I_1 => I_1 [.int .u32 (IntKind.u32.wrap n4), .int .i64 0] w3) fun K_1 vs_1 w4 => ∃ n3 : Int, ∃ n9 : Int, vs_1 = [.int .u32 n3, .int .i64 n9] ∧
  ((decide (n9 < 4)) = true →
  K_1 [.int .u32 (bits2 .xor .u32 (Int.fdiv n3 (2 ^ 1)) (IntKind.u32.wrap (2197175160 * (bits2 .and .u32 n3 1)))), .int .i64 (IntKind.i64.wrap (n9 + 1))] w4) ∧
  ((decide (n9 < 4)) = false →
  (0 : Int) ≤ n4 ∧ n4 < (16 : Int) ∧
  St (Addr.add ⟨k1, 0, none⟩ (n4.toNat * 1)) (.int .u32 n3) w4 fun w5 =>
  K [.int .i64 (IntKind.i64.wrap (n4 + 1))] w5)) ∧
  ((decide (n4 < 16)) = false →
  ∃ z22 : Array Value, z22.size = 16 ∧ bigAt w3 ⟨k1, 0, none⟩ z22 ∧
  ∃ w6, (Instr.storeAt 109 (.pointer (some ⟨k0, 0, none⟩)) (.agg z22)).run Tryd.prog w3 = .ok () w6 ∧
  ∃ zr0 : Array Value, zr0.size = 16 ∧ bigAt w6 ⟨k0, 0, none⟩ zr0 ∧
  R (.agg zr0) w6)
theorem crc_table_eq (w : World) (R : Value → World → Prop) : crc_table w R = fnP Tryd.prog Tryd.f68 (.s .o (.s .o (.s (.s .o (.b (.l [(4, .one (.int .i64))] (.s .o (.s .o (.s (.b (.s .o (.s .o (.s (.s .o (.b (.l [(3, .one (.int .u32)), (9, .one (.int .i64))] .o))) .o)))) .o)))))) .o))) [] w R := by kernel_rfl
theorem crc_table_calls {w : World} {R : Value → World → Prop} (h : crc_table w R) : Calls Tryd.prog 68 #[] w fun e w1 => ∃ v, e = .returned v ∧ R v w1 := fnP_calls callable Tryd.func68 (crc_table_eq w R ▸ h)

/-- revetment/crc.More$1 -/
def crc_More_1 (k0 : Addr) (k1 : Addr) (w : World) (R : Value → World → Prop) : Prop :=
  ∃ D : World → Prop, D w.drew ∧
  ∃ n2 : Int, (∀ w, D w → w.cell? k0 = some (.int .u32 n2)) ∧
  ∃ n4 : Int, (∀ w, D w → w.cell? k0 = some (.int .u32 n4)) ∧
  (0 : Int) ≤ (bits2 .and .u32 n4 15) ∧ (bits2 .and .u32 n4 15) < (16 : Int) ∧
  ∃ n7 : Int, (∀ w, D w → w.cell? (Addr.add k1 ((bits2 .and .u32 n4 15).toNat * 1)) = some (.int .u32 n7)) ∧
  St k0 (.int .u32 (bits2 .xor .u32 (Int.fdiv n2 (2 ^ 4)) n7)) w.drew fun w1 =>
  R (.tuple #[]) w1
theorem crc_More_1_eq (k0 : Addr) (k1 : Addr) (w : World) (R : Value → World → Prop) : crc_More_1 k0 k1 w R = fnP Tryd.prog Tryd.f69 .o [.pointer (some k0), .pointer (some k1)] w R := by kernel_rfl
theorem crc_More_1_calls {k0 : Addr} {k1 : Addr} {w : World} {R : Value → World → Prop} (h : crc_More_1 k0 k1 w R) : Calls Tryd.prog 69 #[.pointer (some k0), .pointer (some k1)] w fun e w1 => ∃ v, e = .returned v ∧ R v w1 := fnP_calls callable Tryd.func69 (crc_More_1_eq k0 k1 w R ▸ h)

/-- cmp.Less[int] -/
def cmp_Less_int (n0 : Int) (n1 : Int) (w : World) (R : Value → World → Prop) : Prop :=
  Calls Tryd.prog 101 #[.int .i64 n0] w fun e w1 => ∃ b6 : Bool, e = .returned (.bool b6) ∧
  (b6 = true →
  Calls Tryd.prog 101 #[.int .i64 n1] w1 fun e_1 w2 => ∃ b9 : Bool, e_1 = .returned (.bool b9) ∧
  ((!b9) = true →
  R (.bool true) w2) ∧
  ((!b9) = false →
  R (.bool (decide (n0 < n1))) w2)) ∧
  (b6 = false →
  R (.bool (decide (n0 < n1))) w1)
theorem cmp_Less_int_eq (n0 : Int) (n1 : Int) (w : World) (R : Value → World → Prop) : cmp_Less_int n0 n1 w R = fnP Tryd.prog Tryd.f90 .o [.int .i64 n0, .int .i64 n1] w R := by kernel_rfl
theorem cmp_Less_int_calls {n0 : Int} {n1 : Int} {w : World} {R : Value → World → Prop} (h : cmp_Less_int n0 n1 w R) : Calls Tryd.prog 90 #[.int .i64 n0, .int .i64 n1] w fun e w1 => ∃ v, e = .returned v ∧ R v w1 := fnP_calls callable Tryd.func90 (cmp_Less_int_eq n0 n1 w R ▸ h)

/-- cmp.isNaN[int] -/
def cmp_isNaN_int (n0 : Int) (w : World) (R : Value → World → Prop) : Prop :=
  R (.bool (n0 != n0)) w
theorem cmp_isNaN_int_eq (n0 : Int) (w : World) (R : Value → World → Prop) : cmp_isNaN_int n0 w R = fnP Tryd.prog Tryd.f101 .o [.int .i64 n0] w R := by kernel_rfl
theorem cmp_isNaN_int_calls {n0 : Int} {w : World} {R : Value → World → Prop} (h : cmp_isNaN_int n0 w R) : Calls Tryd.prog 101 #[.int .i64 n0] w fun e w1 => ∃ v, e = .returned v ∧ R v w1 := fnP_calls callable Tryd.func101 (cmp_isNaN_int_eq n0 w R ▸ h)

end Go.Proofs.YtmipjkalfodcpaaDoor
