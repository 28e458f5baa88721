import Derived.Test.YtbecjmfcppginaaGreatM2
import Derived.Test.YtbecjmfcppginaaGreatM12
/-! The formulas of Go functions, printed by a program of this session (shprint.py), each tied to the loaded function by the kernel. -/
namespace Go.Proofs.YtbecjmfcppginaaGreat
open Go.Sh
set_option linter.unusedVariables false
set_option maxRecDepth 100000
/-- revetment/revetmentref13.Format -/
def revetmentref13_Format (p0 : Option Addr) (w : World) (R : Value → World → Prop) : Prop :=
  ∃ a7 : Addr, p0 = some a7 ∧
  ∃ (p9 : Option Addr) (l9 c9 : Nat), w.cell? a7 = some (.slice p9 l9 c9) ∧
  Calls Tryz.prog 11 #[.int .i64 (l9 : Int)] w fun e w1 => ∃ n11 : Int, e = .returned (.int .i64 n11) ∧
  ((n11 == 0) = true →
  R (.int .i64 1) w1) ∧
  ((n11 == 0) = false →
  LoopP (fun I => I [.int .i64 0] w1) fun K vs w2 => ∃ n3 : Int, vs = [.int .i64 n3] ∧
  ∃ a15 : Addr, p0 = some a15 ∧
  ∃ (p17 : Option Addr) (l17 c17 : Nat), w2.cell? a15 = some (.slice p17 l17 c17) ∧
  Calls Tryz.prog 11 #[.int .i64 (l17 : Int)] w2 fun e_1 w3 => ∃ n19 : Int, e_1 = .returned (.int .i64 n19) ∧
  ((decide (n3 < n19)) = true →
  Calls Tryz.prog 33 #[] w3 fun e_2 w4 => ∃ s27 : ByteArray, e_2 = .returned (.string s27) ∧
  Calls Tryz.prog 18 #[.pointer p0, .int .i64 (IntKind.i64.wrap (4 + (IntKind.i64.wrap (41 * n3)))), .string s27] w4 fun e_3 w5 => ∃ n28 : Int, e_3 = .returned (.int .i64 n28) ∧
  ((n28 != 0) = true →
  R (.int .i64 n28) w5) ∧
  ((n28 != 0) = false →
  K [.int .i64 (IntKind.i64.wrap (n3 + 1))] w5)) ∧
  ((decide (n3 < n19)) = false →
  Calls Tryz.prog 40 #[.int .u64 0] w3 fun e_4 w6 => ∃ s33 : ByteArray, e_4 = .returned (.string s33) ∧
  Calls Tryz.prog 18 #[.pointer p0, .int .i64 3, .string s33] w6 fun e_5 w7 => ∃ n34 : Int, e_5 = .returned (.int .i64 n34) ∧
  ((n34 != 0) = true →
  R (.int .i64 n34) w7) ∧
  ((n34 != 0) = false →
  Calls Tryz.prog 41 #[.pointer p0] w7 fun e_6 w8 => ∃ n39 : Int, e_6 = .returned (.int .i64 n39) ∧
  R (.int .i64 n39) w8)))
theorem revetmentref13_Format_eq (p0 : Option Addr) (w : World) (R : Value → World → Prop) : revetmentref13_Format p0 w R = fnP Tryz.prog Tryz.f9 (.s .o (.s .o (.s (.s .o (.b (.l [(3, .one (.int .i64))] .o))) .o))) [.pointer p0] w R := by kernel_rfl
theorem revetmentref13_Format_calls {p0 : Option Addr} {w : World} {R : Value → World → Prop} (h : revetmentref13_Format p0 w R) : Calls Tryz.prog 9 #[.pointer p0] w fun e w1 => ∃ v, e = .returned v ∧ R v w1 := fnP_calls callable Tryz.func9 (revetmentref13_Format_eq p0 w R ▸ h)

/-- revetment/revetmentref13.Slots -/
def revetmentref13_Slots (n0 : Int) (w : World) (R : Value → World → Prop) : Prop :=
  ((decide (n0 < 4)) = true →
  R (.int .i64 0) w) ∧
  ((decide (n0 < 4)) = false →
  R (.int .i64 (IntKind.i64.wrap (Int.tdiv (IntKind.i64.wrap (n0 - 4)) 41))) w)
theorem revetmentref13_Slots_eq (n0 : Int) (w : World) (R : Value → World → Prop) : revetmentref13_Slots n0 w R = fnP Tryz.prog Tryz.f11 .o [.int .i64 n0] w R := by kernel_rfl
theorem revetmentref13_Slots_calls {n0 : Int} {w : World} {R : Value → World → Prop} (h : revetmentref13_Slots n0 w R) : Calls Tryz.prog 11 #[.int .i64 n0] w fun e w1 => ∃ v, e = .returned v ∧ R v w1 := fnP_calls callable Tryz.func11 (revetmentref13_Slots_eq n0 w R ▸ h)

/-- revetment/revetmentref13.Open -/
def revetmentref13_Open (p0 : Option Addr) (w : World) (R : Value → World → Prop) : Prop :=
  Calls Tryz.prog 46 #[.pointer p0, .int .i64 3] w fun e w1 => ∃ s17_0 : ByteArray, ∃ n17_1 : Int, e = .returned (.tuple #[.string s17_0, .int .i64 n17_1]) ∧
  ((n17_1 != 0) = true →
  R (.tuple #[.pointer none, .slice none 0 0, .int .i64 n17_1]) w1) ∧
  ((n17_1 != 0) = false →
  Calls Tryz.prog 47 #[.string s17_0] w1 fun e_1 w2 => ∃ s25_0 : ByteArray, ∃ b25_1 : Bool, e_1 = .returned (.tuple #[.string s25_0, .bool b25_1]) ∧
  ((!b25_1) = true →
  R (.tuple #[.pointer none, .slice none 0 0, .int .i64 200]) w2) ∧
  ((!b25_1) = false →
  ∃ a32 : Addr, p0 = some a32 ∧
  ∃ (p34 : Option Addr) (l34 c34 : Nat), w2.cell? a32 = some (.slice p34 l34 c34) ∧
  Calls Tryz.prog 11 #[.int .i64 (l34 : Int)] w2 fun e_2 w3 => ∃ n36 : Int, e_2 = .returned (.int .i64 n36) ∧
  ((n36 == 0) = true →
  R (.tuple #[.pointer none, .slice none 0 0, .int .i64 200]) w3) ∧
  ((n36 == 0) = false →
  ∃ s41 : ByteArray, ∃ w4, (Instr.sliceAt 9 (.string s25_0) (some (.int .i64 4)) (some (.int .i64 12)) none).run Tryz.prog w3 = .ok (.string s41) w4 ∧
  Alloc #[.int .i64 8] 3 w4 fun k42 w5 =>
  Calls Tryz.prog 48 #[.string s41, .slice (some ⟨k42, 0, none⟩) 1 1] w5 fun e_3 w6 => ∃ (p43_0 : Option Addr) (l43_0 c43_0 : Nat), ∃ n43_1 : Int, e_3 = .returned (.tuple #[.slice p43_0 l43_0 c43_0, .int .i64 n43_1]) ∧
  ∃ a48 : Addr, p43_0 = some a48 ∧ (0 : Int) ≤ 0 ∧ 0 < (l43_0 : Int) ∧
  ∃ n49 : Int, w6.cell? a48 = some (.int .u64 n49) ∧
  Calls Tryz.prog 40 #[.int .u64 n49] w6 fun e_4 w7 => ∃ s50 : ByteArray, e_4 = .returned (.string s50) ∧
  ((!(s17_0.toList == s50.toList)) = true →
  R (.tuple #[.pointer none, .slice none 0 0, .int .i64 200]) w7) ∧
  ((!(s17_0.toList == s50.toList)) = false →
  ∃ D : World → Prop, D w7.drew ∧
  ∃ a54 : Addr, p43_0 = some a54 ∧ (0 : Int) ≤ 0 ∧ 0 < (l43_0 : Int) ∧
  ∃ n55 : Int, (∀ w, D w → w.cell? a54 = some (.int .u64 n55)) ∧
  ∃ a57 : Addr, p43_0 = some a57 ∧ (0 : Int) ≤ 0 ∧ 0 < (l43_0 : Int) ∧
  ∃ n58 : Int, (∀ w, D w → w.cell? a57 = some (.int .u64 n58)) ∧
  Alloc #[.pointer p0, .int .u64 n55, .int .u64 (IntKind.u64.wrap (n58 + 1))] 65 w7.drew fun k61 w8 =>
  D w8 ∧
  Alloc #[] 99 w8 fun k62 w9 =>
  LoopP (fun I => I [.slice (some ⟨k62, 0, none⟩) 0 0] w9) fun K vs w10 => ∃ (p12 : Option Addr) (l12 c12 : Nat), vs = [.slice p12 l12 c12] ∧
  ∃ a66 : Addr, p0 = some a66 ∧
  ∃ (p68 : Option Addr) (l68 c68 : Nat), w10.cell? a66 = some (.slice p68 l68 c68) ∧
  Calls Tryz.prog 11 #[.int .i64 (l68 : Int)] w10 fun e_5 w11 => ∃ n70 : Int, e_5 = .returned (.int .i64 n70) ∧
  ((decide ((l12 : Int) < n70)) = true →
  ∃ a75 : Addr, (some ⟨k61, 0, none⟩) = some a75 ∧
  ∃ n77 : Int, w11.cell? (a75.add 2) = some (.int .u64 n77) ∧
  Calls Tryz.prog 49 #[.pointer p0, .int .u64 n77] w11 fun e_6 w12 => ∃ n78_0_0 : Int, ∃ n78_0_1 : Int, ∃ (p78_0_2 : Option Addr) (l78_0_2 c78_0_2 : Nat), ∃ b78_1 : Bool, e_6 = .returned (.tuple #[.agg #[.int .u64 n78_0_0, .int .i64 n78_0_1, .slice p78_0_2 l78_0_2 c78_0_2], .bool b78_1]) ∧
  Alloc #[.int .u64 0, .int .i64 0, .slice none 0 0] 99 w12 fun k13 w13 =>
  St ⟨k13, 0, none⟩ (.int .u64 n78_0_0) w13 fun w14 =>
  St ⟨k13, 1, none⟩ (.int .i64 n78_0_1) w14 fun w15 =>
  St ⟨k13, 2, none⟩ (.slice p78_0_2 l78_0_2 c78_0_2) w15 fun w16 =>
  ((!b78_1) = true →
  R (.tuple #[.pointer (some ⟨k61, 0, none⟩), .slice p12 l12 c12, .int .i64 0]) w16) ∧
  ((!b78_1) = false →
  ∃ n86_0 : Int, ∃ n86_1 : Int, ∃ (p86_2 : Option Addr) (l86_2 c86_2 : Nat), (w16.cell? ⟨k13, 0, none⟩ = some (.int .u64 n86_0) ∧ w16.cell? ⟨k13, 1, none⟩ = some (.int .i64 n86_1) ∧ w16.cell? ⟨k13, 2, none⟩ = some (.slice p86_2 l86_2 c86_2)) ∧
  Alloc #[.int .u64 n86_0, .int .i64 n86_1, .slice p86_2 l86_2 c86_2] 99 w16 fun k87 w17 =>
  ∃ (p88 : Option Addr) (l88 c88 : Nat), ∃ w18, (builtin .append #[39, 39] 39 #[false, false] #[.slice p12 l12 c12, .slice (some ⟨k87, 0, none⟩) 1 1]).run Tryz.prog w17 = .ok (.value (.slice p88 l88 c88)) w18 ∧
  ∃ a91 : Addr, (some ⟨k61, 0, none⟩) = some a91 ∧
  ∃ n93 : Int, w18.cell? (a91.add 2) = some (.int .u64 n93) ∧
  ∃ a95 : Addr, (some ⟨k61, 0, none⟩) = some a95 ∧
  St (a95.add 2) (.int .u64 (IntKind.u64.wrap (n93 + 1))) w18 fun w19 =>
  K [.slice p88 l88 c88] w19)) ∧
  ((decide ((l12 : Int) < n70)) = false →
  R (.tuple #[.pointer (some ⟨k61, 0, none⟩), .slice p12 l12 c12, .int .i64 0]) w11)))))
theorem revetmentref13_Open_eq (p0 : Option Addr) (w : World) (R : Value → World → Prop) : revetmentref13_Open p0 w R = fnP Tryz.prog Tryz.f13 (.s .o (.s .o (.s .o (.s .o (.s .o (.s .o (.s .o (.s .o (.s .o (.s (.b (.l [(12, .one .slice)] .o)) .o)))))))))) [.pointer p0] w R := by kernel_rfl
theorem revetmentref13_Open_calls {p0 : Option Addr} {w : World} {R : Value → World → Prop} (h : revetmentref13_Open p0 w R) : Calls Tryz.prog 13 #[.pointer p0] w fun e w1 => ∃ v, e = .returned v ∧ R v w1 := fnP_calls callable Tryz.func13 (revetmentref13_Open_eq p0 w R ▸ h)

/-- (*revetment/revetmentref13.Ring).Append -/
def revetmentref13_Ring_Append (p0 : Option Addr) (n1 : Int) (p2 : Option Addr) (l2 c2 : Nat) (w : World) (R : Value → World → Prop) : Prop :=
  ∃ a17 : Addr, p0 = some a17 ∧
  ∃ n19 : Int, w.cell? (a17.add 2) = some (.int .u64 n19) ∧
  Calls Tryz.prog 30 #[.pointer p0] w fun e w1 => ∃ n21 : Int, e = .returned (.int .i64 n21) ∧
  ((decide (n21 ≤ 0)) = true →
  R (.tuple #[.int .u64 0, .int .i64 130]) w1) ∧
  ((decide (n21 ≤ 0)) = false →
  Calls Tryz.prog 61 #[.agg #[.int .u64 n19, .int .i64 n1, .slice p2 l2 c2]] w1 fun e_1 w2 => ∃ s28_0 : ByteArray, ∃ (p28_1 : Option Addr) (l28_1 c28_1 : Nat), ∃ n28_2 : Int, e_1 = .returned (.tuple #[.string s28_0, .slice p28_1 l28_1 c28_1, .int .i64 n28_2]) ∧
  ((n28_2 != 0) = true →
  R (.tuple #[.int .u64 0, .int .i64 1]) w2) ∧
  ((n28_2 != 0) = false →
  ∃ a35 : Addr, p0 = some a35 ∧
  ∃ p37 : Option Addr, w2.cell? a35 = some (.pointer p37) ∧
  Calls Tryz.prog 62 #[.pointer p37, .int .u64 n19] w2 fun e_2 w3 => ∃ n39 : Int, e_2 = .returned (.int .i64 n39) ∧
  LoopP (fun I => I [.int .i64 0] w3) fun K vs w4 => ∃ n13 : Int, vs = [.int .i64 n13] ∧
  ((decide (n13 < (l28_1 : Int))) = true →
  ∃ D : World → Prop, D w4.drew ∧
  ∃ a47 : Addr, p0 = some a47 ∧
  ∃ p49 : Option Addr, (∀ w, D w → w.cell? a47 = some (.pointer p49)) ∧
  ∃ a56 : Addr, p28_1 = some a56 ∧ (0 : Int) ≤ n13 ∧ n13 < (l28_1 : Int) ∧
  ∃ s57 : ByteArray, (∀ w, D w → w.cell? (Addr.add a56 (n13.toNat * 1)) = some (.string s57)) ∧
  Calls Tryz.prog 18 #[.pointer p49, .int .i64 (IntKind.i64.wrap ((IntKind.i64.wrap (n39 + 1)) + n13)), .string s57] w4.drew fun e_3 w5 => ∃ n58 : Int, e_3 = .returned (.int .i64 n58) ∧
  D w5 ∧
  ((n58 != 0) = true →
  R (.tuple #[.int .u64 0, .int .i64 n58]) w5) ∧
  ((n58 != 0) = false →
  K [.int .i64 (IntKind.i64.wrap (n13 + 1))] w5)) ∧
  ((decide (n13 < (l28_1 : Int))) = false →
  ∃ a63 : Addr, p0 = some a63 ∧
  ∃ p65 : Option Addr, w4.cell? a63 = some (.pointer p65) ∧
  Calls Tryz.prog 41 #[.pointer p65] w4 fun e_4 w6 => ∃ n66 : Int, e_4 = .returned (.int .i64 n66) ∧
  ((n66 != 0) = true →
  R (.tuple #[.int .u64 0, .int .i64 n66]) w6) ∧
  ((n66 != 0) = false →
  ∃ a71 : Addr, p0 = some a71 ∧
  ∃ p73 : Option Addr, w6.cell? a71 = some (.pointer p73) ∧
  Calls Tryz.prog 18 #[.pointer p73, .int .i64 n39, .string s28_0] w6 fun e_5 w7 => ∃ n76 : Int, e_5 = .returned (.int .i64 n76) ∧
  ((n76 != 0) = true →
  R (.tuple #[.int .u64 0, .int .i64 n76]) w7) ∧
  ((n76 != 0) = false →
  ∃ a81 : Addr, p0 = some a81 ∧
  ∃ p83 : Option Addr, w7.cell? a81 = some (.pointer p83) ∧
  Calls Tryz.prog 41 #[.pointer p83] w7 fun e_6 w8 => ∃ n84 : Int, e_6 = .returned (.int .i64 n84) ∧
  ((n84 != 0) = true →
  R (.tuple #[.int .u64 0, .int .i64 n84]) w8) ∧
  ((n84 != 0) = false →
  ∃ a91 : Addr, p0 = some a91 ∧
  St (a91.add 2) (.int .u64 (IntKind.u64.wrap (n19 + 1))) w8 fun w9 =>
  R (.tuple #[.int .u64 n19, .int .i64 0]) w9))))))
theorem revetmentref13_Ring_Append_eq (p0 : Option Addr) (n1 : Int) (p2 : Option Addr) (l2 c2 : Nat) (w : World) (R : Value → World → Prop) : revetmentref13_Ring_Append p0 n1 p2 l2 c2 w R = fnP Tryz.prog Tryz.f25 (.s .o (.s .o (.s .o (.s .o (.s .o (.s .o (.s (.s .o (.b (.l [(13, .one (.int .i64))] .o))) .o))))))) [.pointer p0, .int .i64 n1, .slice p2 l2 c2] w R := by kernel_rfl
theorem revetmentref13_Ring_Append_calls {p0 : Option Addr} {n1 : Int} {p2 : Option Addr} {l2 c2 : Nat} {w : World} {R : Value → World → Prop} (h : revetmentref13_Ring_Append p0 n1 p2 l2 c2 w R) : Calls Tryz.prog 25 #[.pointer p0, .int .i64 n1, .slice p2 l2 c2] w fun e w1 => ∃ v, e = .returned v ∧ R v w1 := fnP_calls callable Tryz.func25 (revetmentref13_Ring_Append_eq p0 n1 p2 l2 c2 w R ▸ h)

/-- (*revetment/revetmentref13.Ring).Trim -/
def revetmentref13_Ring_Trim (p0 : Option Addr) (n1 : Int) (w : World) (R : Value → World → Prop) : Prop :=
  ∃ D : World → Prop, D w.drew ∧
  ∃ a9 : Addr, p0 = some a9 ∧
  ∃ n11 : Int, (∀ w, D w → w.cell? (a9.add 1) = some (.int .u64 n11)) ∧
  ∃ a14 : Addr, p0 = some a14 ∧
  ∃ n16 : Int, (∀ w, D w → w.cell? (a14.add 2) = some (.int .u64 n16)) ∧
  ∃ a18 : Addr, p0 = some a18 ∧
  ∃ n20 : Int, (∀ w, D w → w.cell? (a18.add 1) = some (.int .u64 n20)) ∧
  ((decide ((IntKind.u64.wrap (n1 - n11)) ≥ (IntKind.u64.wrap (n16 - n20)))) = true →
  R (.int .i64 1) w.drew) ∧
  ((decide ((IntKind.u64.wrap (n1 - n11)) ≥ (IntKind.u64.wrap (n16 - n20)))) = false →
  ∃ D_1 : World → Prop, D_1 w.drew.drew ∧
  ∃ a24 : Addr, p0 = some a24 ∧
  ∃ p26 : Option Addr, (∀ w, D_1 w → w.cell? a24 = some (.pointer p26)) ∧
  Calls Tryz.prog 40 #[.int .u64 n1] w.drew.drew fun e w1 => ∃ s28 : ByteArray, e = .returned (.string s28) ∧
  D_1 w1 ∧
  Calls Tryz.prog 18 #[.pointer p26, .int .i64 3, .string s28] w1 fun e_1 w2 => ∃ n29 : Int, e_1 = .returned (.int .i64 n29) ∧
  D_1 w2 ∧
  ((n29 != 0) = true →
  R (.int .i64 n29) w2) ∧
  ((n29 != 0) = false →
  ∃ a34 : Addr, p0 = some a34 ∧
  ∃ p36 : Option Addr, w2.cell? a34 = some (.pointer p36) ∧
  Calls Tryz.prog 41 #[.pointer p36] w2 fun e_2 w3 => ∃ n37 : Int, e_2 = .returned (.int .i64 n37) ∧
  ((n37 != 0) = true →
  R (.int .i64 n37) w3) ∧
  ((n37 != 0) = false →
  ∃ a43 : Addr, p0 = some a43 ∧
  St (a43.add 1) (.int .u64 n1) w3 fun w4 =>
  R (.int .i64 0) w4)))
theorem revetmentref13_Ring_Trim_eq (p0 : Option Addr) (n1 : Int) (w : World) (R : Value → World → Prop) : revetmentref13_Ring_Trim p0 n1 w R = fnP Tryz.prog Tryz.f28 .o [.pointer p0, .int .u64 n1] w R := by kernel_rfl
theorem revetmentref13_Ring_Trim_calls {p0 : Option Addr} {n1 : Int} {w : World} {R : Value → World → Prop} (h : revetmentref13_Ring_Trim p0 n1 w R) : Calls Tryz.prog 28 #[.pointer p0, .int .u64 n1] w fun e w1 => ∃ v, e = .returned v ∧ R v w1 := fnP_calls callable Tryz.func28 (revetmentref13_Ring_Trim_eq p0 n1 w R ▸ h)

/-- (*revetment/revetmentref13.Ring).Left -/
def revetmentref13_Ring_Left (p0 : Option Addr) (w : World) (R : Value → World → Prop) : Prop :=
  ∃ D : World → Prop, D w.drew ∧
  ∃ a4 : Addr, p0 = some a4 ∧
  ∃ p6 : Option Addr, (∀ w, D w → w.cell? a4 = some (.pointer p6)) ∧
  ∃ a7 : Addr, p6 = some a7 ∧
  ∃ (p9 : Option Addr) (l9 c9 : Nat), (∀ w, D w → w.cell? a7 = some (.slice p9 l9 c9)) ∧
  Calls Tryz.prog 11 #[.int .i64 (l9 : Int)] w.drew fun e w1 => ∃ n11 : Int, e = .returned (.int .i64 n11) ∧
  D w1 ∧
  ∃ a13 : Addr, p0 = some a13 ∧
  ∃ n15 : Int, (∀ w, D w → w.cell? (a13.add 2) = some (.int .u64 n15)) ∧
  ∃ a17 : Addr, p0 = some a17 ∧
  ∃ n19 : Int, (∀ w, D w → w.cell? (a17.add 1) = some (.int .u64 n19)) ∧
  R (.int .i64 (IntKind.i64.wrap (n11 - (IntKind.i64.wrap (IntKind.u64.wrap ((IntKind.u64.wrap (n15 - n19)) - 1)))))) w1
theorem revetmentref13_Ring_Left_eq (p0 : Option Addr) (w : World) (R : Value → World → Prop) : revetmentref13_Ring_Left p0 w R = fnP Tryz.prog Tryz.f30 .o [.pointer p0] w R := by kernel_rfl
theorem revetmentref13_Ring_Left_calls {p0 : Option Addr} {w : World} {R : Value → World → Prop} (h : revetmentref13_Ring_Left p0 w R) : Calls Tryz.prog 30 #[.pointer p0] w fun e w1 => ∃ v, e = .returned v ∧ R v w1 := fnP_calls callable Tryz.func30 (revetmentref13_Ring_Left_eq p0 w R ▸ h)

/-- revetment/revetmentref13.Mark -/
def revetmentref13_Mark (n0 : Int) (w : World) (R : Value → World → Prop) : Prop :=
  Alloc #[.int .u64 n0] 57 w fun k9 w1 =>
  Alloc #[.int .i64 8] 3 w1 fun k10 w2 =>
  Calls Tryz.prog 74 #[.slice (some ⟨k9, 0, none⟩) 1 1, .slice (some ⟨k10, 0, none⟩) 1 1] w2 fun e w3 => ∃ s11_0 : ByteArray, ∃ n11_1 : Int, e = .returned (.tuple #[.string s11_0, .int .i64 n11_1]) ∧
  (((ByteArray.mk #[82, 86, 84, 77]).size + s11_0.size : Nat) : Int) ≤ 9223372036854775807 ∧
  Calls Tryz.prog 75 #[.string ((ByteArray.mk #[82, 86, 84, 77]) ++ s11_0), .int .i64 64] w3 fun e_1 w4 => ∃ s17_0 : ByteArray, ∃ b17_1 : Bool, e_1 = .returned (.tuple #[.string s17_0, .bool b17_1]) ∧
  R (.string s17_0) w4
theorem revetmentref13_Mark_eq (n0 : Int) (w : World) (R : Value → World → Prop) : revetmentref13_Mark n0 w R = fnP Tryz.prog Tryz.f40 .o [.int .u64 n0] w R := by kernel_rfl
theorem revetmentref13_Mark_calls {n0 : Int} {w : World} {R : Value → World → Prop} (h : revetmentref13_Mark n0 w R) : Calls Tryz.prog 40 #[.int .u64 n0] w fun e w1 => ∃ v, e = .returned v ∧ R v w1 := fnP_calls callable Tryz.func40 (revetmentref13_Mark_eq n0 w R ▸ h)

/-- revetment/revetmentref02.Open -/
def revetmentref02_Open (s0 : ByteArray) (w : World) (R : Value → World → Prop) : Prop :=
  ((decide ((s0.size : Int) < 4)) = true →
  R (.tuple #[.string (ByteArray.mk #[]), .bool false]) w) ∧
  ((decide ((s0.size : Int) < 4)) = false →
  ∃ s12 : ByteArray, ∃ w1, (Instr.sliceAt 9 (.string s0) none (some (.int .i64 (IntKind.i64.wrap ((s0.size : Int) - 4)))) none).run Tryz.prog w = .ok (.string s12) w1 ∧
  ∃ D : World → Prop, D w1.drew ∧
  ∃ s17 : ByteArray, (∀ w, D w → (Instr.sliceAt 9 (.string s0) (some (.int .i64 (IntKind.i64.wrap ((s0.size : Int) - 4)))) none none).run Tryz.prog w = .ok (.string s17) w) ∧
  Calls Tryz.prog 84 #[.string s12] w1.drew fun e w2 => ∃ n19 : Int, e = .returned (.int .u32 n19) ∧
  D w2 ∧
  Calls Tryz.prog 83 #[.int .u32 n19] w2 fun e_1 w3 => ∃ s20 : ByteArray, e_1 = .returned (.string s20) ∧
  D w3 ∧
  ((!(s17.toList == s20.toList)) = true →
  R (.tuple #[.string (ByteArray.mk #[]), .bool false]) w3) ∧
  ((!(s17.toList == s20.toList)) = false →
  R (.tuple #[.string s12, .bool true]) w3))
theorem revetmentref02_Open_eq (s0 : ByteArray) (w : World) (R : Value → World → Prop) : revetmentref02_Open s0 w R = fnP Tryz.prog Tryz.f47 .o [.string s0] w R := by kernel_rfl
theorem revetmentref02_Open_calls {s0 : ByteArray} {w : World} {R : Value → World → Prop} (h : revetmentref02_Open s0 w R) : Calls Tryz.prog 47 #[.string s0] w fun e w1 => ∃ v, e = .returned v ∧ R v w1 := fnP_calls callable Tryz.func47 (revetmentref02_Open_eq s0 w R ▸ h)

/-- revetment/revetmentref03.Decode -/
def revetmentref03_Decode (s0 : ByteArray) (p1 : Option Addr) (l1 c1 : Nat) (w : World) (R : Value → World → Prop) : Prop :=
  Calls Tryz.prog 85 #[.slice p1 l1 c1] w fun e w1 => ∃ n15_0 : Int, ∃ n15_1 : Int, e = .returned (.tuple #[.int .i64 n15_0, .int .i64 n15_1]) ∧
  ((n15_1 != 0) = true →
  R (.tuple #[.slice none 0 0, .int .i64 n15_1]) w1) ∧
  ((n15_1 != 0) = false →
  (((s0.size : Int) != n15_0) = true →
  R (.tuple #[.slice none 0 0, .int .i64 31]) w1) ∧
  (((s0.size : Int) != n15_0) = false →
  Alloc #[] 57 w1 fun k25 w2 =>
  LoopP (fun I => I [.slice (some ⟨k25, 0, none⟩) 0 0, .int .i64 0, .int .i64 0] w2) fun K vs w3 => ∃ (p8 : Option Addr) (l8 c8 : Nat), ∃ n9 : Int, ∃ n10 : Int, vs = [.slice p8 l8 c8, .int .i64 n9, .int .i64 n10] ∧
  ((decide (n10 < (l1 : Int))) = true →
  LoopP (fun I_1 => I_1 [.int .u64 0, .int .i64 0] w3) fun K_1 vs_1 w4 => ∃ n11 : Int, ∃ n12 : Int, vs_1 = [.int .u64 n11, .int .i64 n12] ∧
  ∃ a35 : Addr, p1 = some a35 ∧ (0 : Int) ≤ n10 ∧ n10 < (l1 : Int) ∧
  ∃ n36 : Int, w4.cell? (Addr.add a35 (n10.toNat * 1)) = some (.int .i64 n36) ∧
  ((decide (n12 < n36)) = true →
  ∃ n45 : Int, ∃ w5, (Instr.index 9 (.string s0) (.int .i64 (IntKind.i64.wrap (n9 + n12)))).run Tryz.prog w4 = .ok (.int .u8 n45) w5 ∧
  (0 : Int) ≤ (IntKind.i64.wrap (8 * n12)) ∧
  K_1 [.int .u64 (bits2 .or .u64 n11 (IntKind.u64.wrap ((IntKind.u64.wrap n45) * 2 ^ (min (IntKind.i64.wrap (8 * n12)).toNat 64)))), .int .i64 (IntKind.i64.wrap (n12 + 1))] w5) ∧
  ((decide (n12 < n36)) = false →
  Alloc #[.int .u64 n11] 57 w4 fun k53 w6 =>
  ∃ (p54 : Option Addr) (l54 c54 : Nat), ∃ w7, (builtin .append #[90, 90] 90 #[false, false] #[.slice p8 l8 c8, .slice (some ⟨k53, 0, none⟩) 1 1]).run Tryz.prog w6 = .ok (.value (.slice p54 l54 c54)) w7 ∧
  ∃ a58 : Addr, p1 = some a58 ∧ (0 : Int) ≤ n10 ∧ n10 < (l1 : Int) ∧
  ∃ n59 : Int, w7.cell? (Addr.add a58 (n10.toNat * 1)) = some (.int .i64 n59) ∧
  K [.slice p54 l54 c54, .int .i64 (IntKind.i64.wrap (n9 + n59)), .int .i64 (IntKind.i64.wrap (n10 + 1))] w7)) ∧
  ((decide (n10 < (l1 : Int))) = false →
  R (.tuple #[.slice p8 l8 c8, .int .i64 0]) w3)))
theorem revetmentref03_Decode_eq (s0 : ByteArray) (p1 : Option Addr) (l1 c1 : Nat) (w : World) (R : Value → World → Prop) : revetmentref03_Decode s0 p1 l1 c1 w R = fnP Tryz.prog Tryz.f48 (.s .o (.s .o (.s .o (.s .o (.s .o (.s .o (.s (.s .o (.b (.l [(8, .one .slice), (9, .one (.int .i64)), (10, .one (.int .i64))] (.s .o (.s (.b (.s .o (.s (.s .o (.b (.l [(11, .one (.int .u64)), (12, .one (.int .i64))] .o))) .o))) .o))))) .o))))))) [.string s0, .slice p1 l1 c1] w R := by kernel_rfl
theorem revetmentref03_Decode_calls {s0 : ByteArray} {p1 : Option Addr} {l1 c1 : Nat} {w : World} {R : Value → World → Prop} (h : revetmentref03_Decode s0 p1 l1 c1 w R) : Calls Tryz.prog 48 #[.string s0, .slice p1 l1 c1] w fun e w1 => ∃ v, e = .returned v ∧ R v w1 := fnP_calls callable Tryz.func48 (revetmentref03_Decode_eq s0 p1 l1 c1 w R ▸ h)

/-- revetment/revetmentref13.read -/
def revetmentref13_read (p0 : Option Addr) (n1 : Int) (w : World) (R : Value → World → Prop) : Prop :=
  Alloc #[.int .u64 0, .int .i64 0, .slice none 0 0] 99 w fun k4 w1 =>
  Calls Tryz.prog 62 #[.pointer p0, .int .u64 n1] w1 fun e w2 => ∃ n20 : Int, e = .returned (.int .i64 n20) ∧
  Calls Tryz.prog 46 #[.pointer p0, .int .i64 n20] w2 fun e_1 w3 => ∃ s24_0 : ByteArray, ∃ n24_1 : Int, e_1 = .returned (.tuple #[.string s24_0, .int .i64 n24_1]) ∧
  ((n24_1 != 0) = true →
  St ⟨k4, 0, none⟩ (.int .u64 0) w3 fun w4 =>
  St ⟨k4, 1, none⟩ (.int .i64 0) w4 fun w5 =>
  St ⟨k4, 2, none⟩ (.slice none 0 0) w5 fun w6 =>
  ∃ nr4_0 : Int, ∃ nr4_1 : Int, ∃ (pr4_2 : Option Addr) (lr4_2 cr4_2 : Nat), (w6.cell? ⟨k4, 0, none⟩ = some (.int .u64 nr4_0) ∧ w6.cell? ⟨k4, 1, none⟩ = some (.int .i64 nr4_1) ∧ w6.cell? ⟨k4, 2, none⟩ = some (.slice pr4_2 lr4_2 cr4_2)) ∧
  R (.tuple #[.agg #[.int .u64 nr4_0, .int .i64 nr4_1, .slice pr4_2 lr4_2 cr4_2], .bool false]) w6) ∧
  ((n24_1 != 0) = false →
  Calls Tryz.prog 86 #[.string s24_0] w3 fun e_2 w7 => ∃ n32_0_0 : Int, ∃ n32_0_1 : Int, ∃ (p32_0_2 : Option Addr) (l32_0_2 c32_0_2 : Nat), ∃ n32_1 : Int, ∃ n32_2 : Int, e_2 = .returned (.tuple #[.agg #[.int .u64 n32_0_0, .int .i64 n32_0_1, .slice p32_0_2 l32_0_2 c32_0_2], .int .u32 n32_1, .int .i64 n32_2]) ∧
  Alloc #[.int .u64 0, .int .i64 0, .slice none 0 0] 99 w7 fun k9 w8 =>
  St ⟨k9, 0, none⟩ (.int .u64 n32_0_0) w8 fun w9 =>
  St ⟨k9, 1, none⟩ (.int .i64 n32_0_1) w9 fun w10 =>
  St ⟨k9, 2, none⟩ (.slice p32_0_2 l32_0_2 c32_0_2) w10 fun w11 =>
  ((n32_2 != 0) = true →
  St ⟨k4, 0, none⟩ (.int .u64 0) w11 fun w12 =>
  St ⟨k4, 1, none⟩ (.int .i64 0) w12 fun w13 =>
  St ⟨k4, 2, none⟩ (.slice none 0 0) w13 fun w14 =>
  ∃ nr4_0_1 : Int, ∃ nr4_1_1 : Int, ∃ (pr4_2_1 : Option Addr) (lr4_2_1 cr4_2_1 : Nat), (w14.cell? ⟨k4, 0, none⟩ = some (.int .u64 nr4_0_1) ∧ w14.cell? ⟨k4, 1, none⟩ = some (.int .i64 nr4_1_1) ∧ w14.cell? ⟨k4, 2, none⟩ = some (.slice pr4_2_1 lr4_2_1 cr4_2_1)) ∧
  R (.tuple #[.agg #[.int .u64 nr4_0_1, .int .i64 nr4_1_1, .slice pr4_2_1 lr4_2_1 cr4_2_1], .bool false]) w14) ∧
  ((n32_2 != 0) = false →
  ∃ n40 : Int, w11.cell? ⟨k9, 0, none⟩ = some (.int .u64 n40) ∧
  ((n40 != n1) = true →
  St ⟨k4, 0, none⟩ (.int .u64 0) w11 fun w15 =>
  St ⟨k4, 1, none⟩ (.int .i64 0) w15 fun w16 =>
  St ⟨k4, 2, none⟩ (.slice none 0 0) w16 fun w17 =>
  ∃ nr4_0_2 : Int, ∃ nr4_1_2 : Int, ∃ (pr4_2_2 : Option Addr) (lr4_2_2 cr4_2_2 : Nat), (w17.cell? ⟨k4, 0, none⟩ = some (.int .u64 nr4_0_2) ∧ w17.cell? ⟨k4, 1, none⟩ = some (.int .i64 nr4_1_2) ∧ w17.cell? ⟨k4, 2, none⟩ = some (.slice pr4_2_2 lr4_2_2 cr4_2_2)) ∧
  R (.tuple #[.agg #[.int .u64 nr4_0_2, .int .i64 nr4_1_2, .slice pr4_2_2 lr4_2_2 cr4_2_2], .bool false]) w17) ∧
  ((n40 != n1) = false →
  Alloc #[] 9 w11 fun k45 w18 =>
  LoopP (fun I => I [.slice (some ⟨k45, 0, none⟩) 0 0, .int .i64 0] w18) fun K vs w19 => ∃ (p12 : Option Addr) (l12 c12 : Nat), ∃ n13 : Int, vs = [.slice p12 l12 c12, .int .i64 n13] ∧
  ∃ (p48 : Option Addr) (l48 c48 : Nat), w19.cell? ⟨k9, 2, none⟩ = some (.slice p48 l48 c48) ∧
  ((decide (n13 < (l48 : Int))) = true →
  Calls Tryz.prog 46 #[.pointer p0, .int .i64 (IntKind.i64.wrap ((IntKind.i64.wrap (n20 + 1)) + n13))] w19 fun e_3 w20 => ∃ s59_0 : ByteArray, ∃ n59_1 : Int, e_3 = .returned (.tuple #[.string s59_0, .int .i64 n59_1]) ∧
  ((n59_1 != 0) = true →
  St ⟨k4, 0, none⟩ (.int .u64 0) w20 fun w21 =>
  St ⟨k4, 1, none⟩ (.int .i64 0) w21 fun w22 =>
  St ⟨k4, 2, none⟩ (.slice none 0 0) w22 fun w23 =>
  ∃ nr4_0_3 : Int, ∃ nr4_1_3 : Int, ∃ (pr4_2_3 : Option Addr) (lr4_2_3 cr4_2_3 : Nat), (w23.cell? ⟨k4, 0, none⟩ = some (.int .u64 nr4_0_3) ∧ w23.cell? ⟨k4, 1, none⟩ = some (.int .i64 nr4_1_3) ∧ w23.cell? ⟨k4, 2, none⟩ = some (.slice pr4_2_3 lr4_2_3 cr4_2_3)) ∧
  R (.tuple #[.agg #[.int .u64 nr4_0_3, .int .i64 nr4_1_3, .slice pr4_2_3 lr4_2_3 cr4_2_3], .bool false]) w23) ∧
  ((n59_1 != 0) = false →
  Alloc #[.string s59_0] 9 w20 fun k67 w24 =>
  ∃ (p68 : Option Addr) (l68 c68 : Nat), ∃ w25, (builtin .append #[42, 42] 42 #[false, false] #[.slice p12 l12 c12, .slice (some ⟨k67, 0, none⟩) 1 1]).run Tryz.prog w24 = .ok (.value (.slice p68 l68 c68)) w25 ∧
  K [.slice p68 l68 c68, .int .i64 (IntKind.i64.wrap (n13 + 1))] w25)) ∧
  ((decide (n13 < (l48 : Int))) = false →
  Calls Tryz.prog 87 #[.string s24_0, .slice p12 l12 c12] w19 fun e_4 w26 => ∃ n72_0_0 : Int, ∃ n72_0_1 : Int, ∃ (p72_0_2 : Option Addr) (l72_0_2 c72_0_2 : Nat), ∃ n72_1 : Int, e_4 = .returned (.tuple #[.agg #[.int .u64 n72_0_0, .int .i64 n72_0_1, .slice p72_0_2 l72_0_2 c72_0_2], .int .i64 n72_1]) ∧
  Alloc #[.int .u64 0, .int .i64 0, .slice none 0 0] 99 w26 fun k16 w27 =>
  St ⟨k16, 0, none⟩ (.int .u64 n72_0_0) w27 fun w28 =>
  St ⟨k16, 1, none⟩ (.int .i64 n72_0_1) w28 fun w29 =>
  St ⟨k16, 2, none⟩ (.slice p72_0_2 l72_0_2 c72_0_2) w29 fun w30 =>
  ∃ n75_0 : Int, ∃ n75_1 : Int, ∃ (p75_2 : Option Addr) (l75_2 c75_2 : Nat), (w30.cell? ⟨k16, 0, none⟩ = some (.int .u64 n75_0) ∧ w30.cell? ⟨k16, 1, none⟩ = some (.int .i64 n75_1) ∧ w30.cell? ⟨k16, 2, none⟩ = some (.slice p75_2 l75_2 c75_2)) ∧
  St ⟨k4, 0, none⟩ (.int .u64 n75_0) w30 fun w31 =>
  St ⟨k4, 1, none⟩ (.int .i64 n75_1) w31 fun w32 =>
  St ⟨k4, 2, none⟩ (.slice p75_2 l75_2 c75_2) w32 fun w33 =>
  ∃ nr4_0_4 : Int, ∃ nr4_1_4 : Int, ∃ (pr4_2_4 : Option Addr) (lr4_2_4 cr4_2_4 : Nat), (w33.cell? ⟨k4, 0, none⟩ = some (.int .u64 nr4_0_4) ∧ w33.cell? ⟨k4, 1, none⟩ = some (.int .i64 nr4_1_4) ∧ w33.cell? ⟨k4, 2, none⟩ = some (.slice pr4_2_4 lr4_2_4 cr4_2_4)) ∧
  R (.tuple #[.agg #[.int .u64 nr4_0_4, .int .i64 nr4_1_4, .slice pr4_2_4 lr4_2_4 cr4_2_4], .bool (n72_1 == 0)]) w33))))
theorem revetmentref13_read_eq (p0 : Option Addr) (n1 : Int) (w : World) (R : Value → World → Prop) : revetmentref13_read p0 n1 w R = fnP Tryz.prog Tryz.f49 (.s .o (.s .o (.s .o (.s .o (.s .o (.s .o (.s .o (.s (.s .o (.b (.l [(12, .one .slice), (13, .one (.int .i64))] .o))) .o)))))))) [.pointer p0, .int .u64 n1] w R := by kernel_rfl
theorem revetmentref13_read_calls {p0 : Option Addr} {n1 : Int} {w : World} {R : Value → World → Prop} (h : revetmentref13_read p0 n1 w R) : Calls Tryz.prog 49 #[.pointer p0, .int .u64 n1] w fun e w1 => ∃ v, e = .returned v ∧ R v w1 := fnP_calls callable Tryz.func49 (revetmentref13_read_eq p0 n1 w R ▸ h)

/-- revetment/revetmentref12.Same -/
def revetmentref12_Same (n0_0 : Int) (n0_1 : Int) (p0_2 : Option Addr) (l0_2 c0_2 : Nat) (n1_0 : Int) (n1_1 : Int) (p1_2 : Option Addr) (l1_2 c1_2 : Nat) (w : World) (R : Value → World → Prop) : Prop :=
  Alloc #[.int .u64 n0_0, .int .i64 n0_1, .slice p0_2 l0_2 c0_2] 99 w fun k2 w1 =>
  Alloc #[.int .u64 n1_0, .int .i64 n1_1, .slice p1_2 l1_2 c1_2] 99 w1 fun k3 w2 =>
  ∃ n7 : Int, w2.cell? ⟨k2, 0, none⟩ = some (.int .u64 n7) ∧
  ∃ n9 : Int, w2.cell? ⟨k3, 0, none⟩ = some (.int .u64 n9) ∧
  ((n7 != n9) = true →
  R (.bool false) w2) ∧
  ((n7 != n9) = false →
  ∃ n13 : Int, w2.cell? ⟨k2, 1, none⟩ = some (.int .i64 n13) ∧
  ∃ n15 : Int, w2.cell? ⟨k3, 1, none⟩ = some (.int .i64 n15) ∧
  ((n13 != n15) = true →
  R (.bool false) w2) ∧
  ((n13 != n15) = false →
  ∃ (p20 : Option Addr) (l20 c20 : Nat), w2.cell? ⟨k2, 2, none⟩ = some (.slice p20 l20 c20) ∧
  ∃ (p23 : Option Addr) (l23 c23 : Nat), w2.cell? ⟨k3, 2, none⟩ = some (.slice p23 l23 c23) ∧
  (((l20 : Int) != (l23 : Int)) = true →
  R (.bool false) w2) ∧
  (((l20 : Int) != (l23 : Int)) = false →
  LoopP (fun I => I [.int .i64 0] w2) fun K vs w3 => ∃ n5 : Int, vs = [.int .i64 n5] ∧
  ∃ (p29 : Option Addr) (l29 c29 : Nat), w3.cell? ⟨k2, 2, none⟩ = some (.slice p29 l29 c29) ∧
  ((decide (n5 < (l29 : Int))) = true →
  ∃ D : World → Prop, D w3.drew ∧
  ∃ (p35 : Option Addr) (l35 c35 : Nat), (∀ w, D w → w.cell? ⟨k2, 2, none⟩ = some (.slice p35 l35 c35)) ∧
  ∃ a37 : Addr, p35 = some a37 ∧ (0 : Int) ≤ n5 ∧ n5 < (l35 : Int) ∧
  ∃ n38_0 : Int, ∃ n38_1 : Int, ∃ s38_2 : ByteArray, (∀ w, D w → w.cell? (Addr.add a37 (n5.toNat * 3)) = some (.int .i64 n38_0) ∧ w.cell? (Addr.add (Addr.add a37 (n5.toNat * 3)) 1) = some (.int .i64 n38_1) ∧ w.cell? (Addr.add (Addr.add a37 (n5.toNat * 3)) 2) = some (.string s38_2)) ∧
  ∃ (p40 : Option Addr) (l40 c40 : Nat), (∀ w, D w → w.cell? ⟨k3, 2, none⟩ = some (.slice p40 l40 c40)) ∧
  ∃ a42 : Addr, p40 = some a42 ∧ (0 : Int) ≤ n5 ∧ n5 < (l40 : Int) ∧
  ∃ n43_0 : Int, ∃ n43_1 : Int, ∃ s43_2 : ByteArray, (∀ w, D w → w.cell? (Addr.add a42 (n5.toNat * 3)) = some (.int .i64 n43_0) ∧ w.cell? (Addr.add (Addr.add a42 (n5.toNat * 3)) 1) = some (.int .i64 n43_1) ∧ w.cell? (Addr.add (Addr.add a42 (n5.toNat * 3)) 2) = some (.string s43_2)) ∧
  ∃ b44 : Bool, (∀ w, D w → (do eqGuard .neq 115 (.tmp 38) (.tmp 43) (.agg #[.int .i64 n38_0, .int .i64 n38_1, .string s38_2]) (.agg #[.int .i64 n43_0, .int .i64 n43_1, .string s43_2]); binOp .neq 115 (.agg #[.int .i64 n38_0, .int .i64 n38_1, .string s38_2]) (.agg #[.int .i64 n43_0, .int .i64 n43_1, .string s43_2]) : Sem Value).run Tryz.prog w = .ok (.bool b44) w) ∧
  (b44 = true →
  R (.bool false) w3.drew) ∧
  (b44 = false →
  K [.int .i64 (IntKind.i64.wrap (n5 + 1))] w3.drew)) ∧
  ((decide (n5 < (l29 : Int))) = false →
  R (.bool true) w3))))
theorem revetmentref12_Same_eq (n0_0 : Int) (n0_1 : Int) (p0_2 : Option Addr) (l0_2 c0_2 : Nat) (n1_0 : Int) (n1_1 : Int) (p1_2 : Option Addr) (l1_2 c1_2 : Nat) (w : World) (R : Value → World → Prop) : revetmentref12_Same n0_0 n0_1 p0_2 l0_2 c0_2 n1_0 n1_1 p1_2 l1_2 c1_2 w R = fnP Tryz.prog Tryz.f58 (.s .o (.s .o (.s (.s .o (.b (.l [(5, .one (.int .i64))] .o))) .o))) [.agg #[.int .u64 n0_0, .int .i64 n0_1, .slice p0_2 l0_2 c0_2], .agg #[.int .u64 n1_0, .int .i64 n1_1, .slice p1_2 l1_2 c1_2]] w R := by kernel_rfl
theorem revetmentref12_Same_calls {n0_0 : Int} {n0_1 : Int} {p0_2 : Option Addr} {l0_2 c0_2 : Nat} {n1_0 : Int} {n1_1 : Int} {p1_2 : Option Addr} {l1_2 c1_2 : Nat} {w : World} {R : Value → World → Prop} (h : revetmentref12_Same n0_0 n0_1 p0_2 l0_2 c0_2 n1_0 n1_1 p1_2 l1_2 c1_2 w R) : Calls Tryz.prog 58 #[.agg #[.int .u64 n0_0, .int .i64 n0_1, .slice p0_2 l0_2 c0_2], .agg #[.int .u64 n1_0, .int .i64 n1_1, .slice p1_2 l1_2 c1_2]] w fun e w1 => ∃ v, e = .returned v ∧ R v w1 := fnP_calls callable Tryz.func58 (revetmentref12_Same_eq n0_0 n0_1 p0_2 l0_2 c0_2 n1_0 n1_1 p1_2 l1_2 c1_2 w R ▸ h)

/-- revetment/revetmentref12.Encode -/
def revetmentref12_Encode (n0_0 : Int) (n0_1 : Int) (p0_2 : Option Addr) (l0_2 c0_2 : Nat) (w : World) (R : Value → World → Prop) : Prop :=
  Alloc #[.int .u64 n0_0, .int .i64 n0_1, .slice p0_2 l0_2 c0_2] 99 w fun k1 w1 =>
  ∃ n8_0 : Int, ∃ n8_1 : Int, ∃ (p8_2 : Option Addr) (l8_2 c8_2 : Nat), (w1.cell? ⟨k1, 0, none⟩ = some (.int .u64 n8_0) ∧ w1.cell? ⟨k1, 1, none⟩ = some (.int .i64 n8_1) ∧ w1.cell? ⟨k1, 2, none⟩ = some (.slice p8_2 l8_2 c8_2)) ∧
  Calls Tryz.prog 93 #[.agg #[.int .u64 n8_0, .int .i64 n8_1, .slice p8_2 l8_2 c8_2]] w1 fun e w2 => ∃ b9 : Bool, e = .returned (.bool b9) ∧
  ((!b9) = true →
  R (.tuple #[.string (ByteArray.mk #[]), .slice none 0 0, .int .i64 1]) w2) ∧
  ((!b9) = false →
  Alloc #[] 9 w2 fun k11 w3 =>
  LoopP (fun I => I [.string (ByteArray.mk #[]), .slice (some ⟨k11, 0, none⟩) 0 0, .int .i64 0] w3) fun K vs w4 => ∃ s5 : ByteArray, ∃ (p6 : Option Addr) (l6 c6 : Nat), ∃ n7 : Int, vs = [.string s5, .slice p6 l6 c6, .int .i64 n7] ∧
  ∃ (p14 : Option Addr) (l14 c14 : Nat), w4.cell? ⟨k1, 2, none⟩ = some (.slice p14 l14 c14) ∧
  ((decide (n7 < (l14 : Int))) = true →
  ∃ (p21 : Option Addr) (l21 c21 : Nat), w4.cell? ⟨k1, 2, none⟩ = some (.slice p21 l21 c21) ∧
  ∃ a23 : Addr, p21 = some a23 ∧ (0 : Int) ≤ n7 ∧ n7 < (l21 : Int) ∧
  ∃ s25 : ByteArray, w4.cell? (Addr.add (Addr.add a23 (n7.toNat * 3)) 2) = some (.string s25) ∧
  ((s5.size + s25.size : Nat) : Int) ≤ 9223372036854775807 ∧
  ∃ (p29 : Option Addr) (l29 c29 : Nat), w4.cell? ⟨k1, 2, none⟩ = some (.slice p29 l29 c29) ∧
  ∃ a31 : Addr, p29 = some a31 ∧ (0 : Int) ≤ n7 ∧ n7 < (l29 : Int) ∧
  ∃ s33 : ByteArray, w4.cell? (Addr.add (Addr.add a31 (n7.toNat * 3)) 2) = some (.string s33) ∧
  Alloc #[.string s33] 9 w4 fun k34 w5 =>
  ∃ (p35 : Option Addr) (l35 c35 : Nat), ∃ w6, (builtin .append #[42, 42] 42 #[false, false] #[.slice p6 l6 c6, .slice (some ⟨k34, 0, none⟩) 1 1]).run Tryz.prog w5 = .ok (.value (.slice p35 l35 c35)) w6 ∧
  K [.string (s5 ++ s25), .slice p35 l35 c35, .int .i64 (IntKind.i64.wrap (n7 + 1))] w6) ∧
  ((decide (n7 < (l14 : Int))) = false →
  ∃ D : World → Prop, D w4.drew ∧
  ∃ n36_0 : Int, ∃ n36_1 : Int, ∃ (p36_2 : Option Addr) (l36_2 c36_2 : Nat), (∀ w, D w → w.cell? ⟨k1, 0, none⟩ = some (.int .u64 n36_0) ∧ w.cell? ⟨k1, 1, none⟩ = some (.int .i64 n36_1) ∧ w.cell? ⟨k1, 2, none⟩ = some (.slice p36_2 l36_2 c36_2)) ∧
  Calls Tryz.prog 84 #[.string s5] w4.drew fun e_1 w7 => ∃ n38 : Int, e_1 = .returned (.int .u32 n38) ∧
  D w7 ∧
  Calls Tryz.prog 94 #[.agg #[.int .u64 n36_0, .int .i64 n36_1, .slice p36_2 l36_2 c36_2], .int .u32 n38] w7 fun e_2 w8 => ∃ s39 : ByteArray, e_2 = .returned (.string s39) ∧
  D w8 ∧
  R (.tuple #[.string s39, .slice p6 l6 c6, .int .i64 0]) w8))
theorem revetmentref12_Encode_eq (n0_0 : Int) (n0_1 : Int) (p0_2 : Option Addr) (l0_2 c0_2 : Nat) (w : World) (R : Value → World → Prop) : revetmentref12_Encode n0_0 n0_1 p0_2 l0_2 c0_2 w R = fnP Tryz.prog Tryz.f61 (.s .o (.s .o (.s .o (.s .o (.s (.s .o (.b (.l [(5, .one .str), (6, .one .slice), (7, .one (.int .i64))] .o))) .o))))) [.agg #[.int .u64 n0_0, .int .i64 n0_1, .slice p0_2 l0_2 c0_2]] w R := by kernel_rfl
theorem revetmentref12_Encode_calls {n0_0 : Int} {n0_1 : Int} {p0_2 : Option Addr} {l0_2 c0_2 : Nat} {w : World} {R : Value → World → Prop} (h : revetmentref12_Encode n0_0 n0_1 p0_2 l0_2 c0_2 w R) : Calls Tryz.prog 61 #[.agg #[.int .u64 n0_0, .int .i64 n0_1, .slice p0_2 l0_2 c0_2]] w fun e w1 => ∃ v, e = .returned v ∧ R v w1 := fnP_calls callable Tryz.func61 (revetmentref12_Encode_eq n0_0 n0_1 p0_2 l0_2 c0_2 w R ▸ h)

/-- revetment/revetmentref13.first -/
def revetmentref13_first (p0 : Option Addr) (n1 : Int) (w : World) (R : Value → World → Prop) : Prop :=
  ∃ a7 : Addr, p0 = some a7 ∧
  ∃ (p9 : Option Addr) (l9 c9 : Nat), w.cell? a7 = some (.slice p9 l9 c9) ∧
  Calls Tryz.prog 11 #[.int .i64 (l9 : Int)] w fun e w1 => ∃ n11 : Int, e = .returned (.int .i64 n11) ∧
  (IntKind.u64.wrap n11) ≠ 0 ∧
  R (.int .i64 (IntKind.i64.wrap (4 + (IntKind.i64.wrap (41 * (IntKind.i64.wrap (Int.tmod n1 (IntKind.u64.wrap n11)))))))) w1
theorem revetmentref13_first_eq (p0 : Option Addr) (n1 : Int) (w : World) (R : Value → World → Prop) : revetmentref13_first p0 n1 w R = fnP Tryz.prog Tryz.f62 .o [.pointer p0, .int .u64 n1] w R := by kernel_rfl
theorem revetmentref13_first_calls {p0 : Option Addr} {n1 : Int} {w : World} {R : Value → World → Prop} (h : revetmentref13_first p0 n1 w R) : Calls Tryz.prog 62 #[.pointer p0, .int .u64 n1] w fun e w1 => ∃ v, e = .returned v ∧ R v w1 := fnP_calls callable Tryz.func62 (revetmentref13_first_eq p0 n1 w R ▸ h)

/-- revetment/revetmentref03.Encode -/
def revetmentref03_Encode (p0 : Option Addr) (l0 c0 : Nat) (p1 : Option Addr) (l1 c1 : Nat) (w : World) (R : Value → World → Prop) : Prop :=
  Calls Tryz.prog 85 #[.slice p1 l1 c1] w fun e w1 => ∃ n13_0 : Int, ∃ n13_1 : Int, e = .returned (.tuple #[.int .i64 n13_0, .int .i64 n13_1]) ∧
  ((n13_1 != 0) = true →
  R (.tuple #[.string (ByteArray.mk #[]), .int .i64 n13_1]) w1) ∧
  ((n13_1 != 0) = false →
  (((l0 : Int) != (l1 : Int)) = true →
  R (.tuple #[.string (ByteArray.mk #[]), .int .i64 1]) w1) ∧
  (((l0 : Int) != (l1 : Int)) = false →
  Alloc #[] 5 w1 fun k24 w2 =>
  LoopP (fun I => I [.slice (some ⟨k24, 0, none⟩) 0 0, .int .i64 0] w2) fun K vs w3 => ∃ (p8 : Option Addr) (l8 c8 : Nat), ∃ n9 : Int, vs = [.slice p8 l8 c8, .int .i64 n9] ∧
  ((decide (n9 < (l0 : Int))) = true →
  ∃ D : World → Prop, D w3.drew ∧
  ∃ a33 : Addr, p0 = some a33 ∧ (0 : Int) ≤ n9 ∧ n9 < (l0 : Int) ∧
  ∃ n34 : Int, (∀ w, D w → w.cell? (Addr.add a33 (n9.toNat * 1)) = some (.int .u64 n34)) ∧
  ∃ a37 : Addr, p1 = some a37 ∧ (0 : Int) ≤ n9 ∧ n9 < (l1 : Int) ∧
  ∃ n38 : Int, (∀ w, D w → w.cell? (Addr.add a37 (n9.toNat * 1)) = some (.int .i64 n38)) ∧
  Calls Tryz.prog 101 #[.int .u64 n34, .int .i64 n38] w3.drew fun e_1 w4 => ∃ b39 : Bool, e_1 = .returned (.bool b39) ∧
  D w4 ∧
  ((!b39) = true →
  R (.tuple #[.string (ByteArray.mk #[]), .int .i64 30]) w4) ∧
  ((!b39) = false →
  LoopP (fun I_1 => I_1 [.slice p8 l8 c8, .int .i64 0] w4) fun K_1 vs_1 w5 => ∃ (p8_1 : Option Addr) (l8_1 c8_1 : Nat), ∃ n10 : Int, vs_1 = [.slice p8_1 l8_1 c8_1, .int .i64 n10] ∧
  ∃ a44 : Addr, p1 = some a44 ∧ (0 : Int) ≤ n9 ∧ n9 < (l1 : Int) ∧
  ∃ n45 : Int, w5.cell? (Addr.add a44 (n9.toNat * 1)) = some (.int .i64 n45) ∧
  ((decide (n10 < n45)) = true →
  ∃ a52 : Addr, p0 = some a52 ∧ (0 : Int) ≤ n9 ∧ n9 < (l0 : Int) ∧
  ∃ n53 : Int, w5.cell? (Addr.add a52 (n9.toNat * 1)) = some (.int .u64 n53) ∧
  (0 : Int) ≤ (IntKind.i64.wrap (8 * n10)) ∧
  Alloc #[.int .u8 (IntKind.u8.wrap (Int.fdiv n53 (2 ^ (min (IntKind.i64.wrap (8 * n10)).toNat 64))))] 5 w5 fun k58 w6 =>
  ∃ (p59 : Option Addr) (l59 c59 : Nat), ∃ w7, (builtin .append #[44, 44] 44 #[false, false] #[.slice p8_1 l8_1 c8_1, .slice (some ⟨k58, 0, none⟩) 1 1]).run Tryz.prog w6 = .ok (.value (.slice p59 l59 c59)) w7 ∧
  K_1 [.slice p59 l59 c59, .int .i64 (IntKind.i64.wrap (n10 + 1))] w7) ∧
  ((decide (n10 < n45)) = false →
  K [.slice p8_1 l8_1 c8_1, .int .i64 (IntKind.i64.wrap (n9 + 1))] w5))) ∧
  ((decide (n9 < (l0 : Int))) = false →
  ∃ s61 : ByteArray, ∃ w8, (convert 44 9 (.slice p8 l8 c8)).run Tryz.prog w3 = .ok (.string s61) w8 ∧
  R (.tuple #[.string s61, .int .i64 0]) w8)))
theorem revetmentref03_Encode_eq (p0 : Option Addr) (l0 c0 : Nat) (p1 : Option Addr) (l1 c1 : Nat) (w : World) (R : Value → World → Prop) : revetmentref03_Encode p0 l0 c0 p1 l1 c1 w R = fnP Tryz.prog Tryz.f74 (.s .o (.s .o (.s .o (.s .o (.s .o (.s (.s .o (.b (.l [(8, .one .slice), (9, .one (.int .i64))] (.s .o (.s (.b (.s .o (.s .o (.b (.l [(8, .one .slice), (10, .one (.int .i64))] .o))))) .o))))) .o)))))) [.slice p0 l0 c0, .slice p1 l1 c1] w R := by kernel_rfl
theorem revetmentref03_Encode_calls {p0 : Option Addr} {l0 c0 : Nat} {p1 : Option Addr} {l1 c1 : Nat} {w : World} {R : Value → World → Prop} (h : revetmentref03_Encode p0 l0 c0 p1 l1 c1 w R) : Calls Tryz.prog 74 #[.slice p0 l0 c0, .slice p1 l1 c1] w fun e w1 => ∃ v, e = .returned v ∧ R v w1 := fnP_calls callable Tryz.func74 (revetmentref03_Encode_eq p0 l0 c0 p1 l1 c1 w R ▸ h)

/-- revetment/revetmentref02.Seal -/
def revetmentref02_Seal (s0 : ByteArray) (n1 : Int) (w : World) (R : Value → World → Prop) : Prop :=
  ((decide (n1 < 4)) = true →
  R (.tuple #[.string (ByteArray.mk #[]), .bool false]) w) ∧
  ((decide (n1 < 4)) = false →
  ((decide (n1 > 4096)) = true →
  R (.tuple #[.string (ByteArray.mk #[]), .bool false]) w) ∧
  ((decide (n1 > 4096)) = false →
  ((decide ((s0.size : Int) > (IntKind.i64.wrap (n1 - 4)))) = true →
  R (.tuple #[.string (ByteArray.mk #[]), .bool false]) w) ∧
  ((decide ((s0.size : Int) > (IntKind.i64.wrap (n1 - 4)))) = false →
  LoopP (fun I => I [.string s0] w) fun K vs w1 => ∃ s6 : ByteArray, vs = [.string s6] ∧
  ((decide ((s6.size : Int) < (IntKind.i64.wrap (n1 - 4)))) = true →
  ((s6.size + (ByteArray.mk #[0]).size : Nat) : Int) ≤ 9223372036854775807 ∧
  K [.string (s6 ++ (ByteArray.mk #[0]))] w1) ∧
  ((decide ((s6.size : Int) < (IntKind.i64.wrap (n1 - 4)))) = false →
  Calls Tryz.prog 84 #[.string s6] w1 fun e w2 => ∃ n30 : Int, e = .returned (.int .u32 n30) ∧
  Calls Tryz.prog 83 #[.int .u32 n30] w2 fun e_1 w3 => ∃ s31 : ByteArray, e_1 = .returned (.string s31) ∧
  ((s6.size + s31.size : Nat) : Int) ≤ 9223372036854775807 ∧
  R (.tuple #[.string (s6 ++ s31), .bool true]) w3))))
theorem revetmentref02_Seal_eq (s0 : ByteArray) (n1 : Int) (w : World) (R : Value → World → Prop) : revetmentref02_Seal s0 n1 w R = fnP Tryz.prog Tryz.f75 (.s .o (.s .o (.s .o (.s (.b (.l [(6, .one .str)] .o)) .o)))) [.string s0, .int .i64 n1] w R := by kernel_rfl
theorem revetmentref02_Seal_calls {s0 : ByteArray} {n1 : Int} {w : World} {R : Value → World → Prop} (h : revetmentref02_Seal s0 n1 w R) : Calls Tryz.prog 75 #[.string s0, .int .i64 n1] w fun e w1 => ∃ v, e = .returned v ∧ R v w1 := fnP_calls callable Tryz.func75 (revetmentref02_Seal_eq s0 n1 w R ▸ h)

/-- revetment/revetmentref02.four -/
def revetmentref02_four (n0 : Int) (w : World) (R : Value → World → Prop) : Prop :=
  Alloc #[.int .u8 (IntKind.u8.wrap n0), .int .u8 (IntKind.u8.wrap (Int.fdiv n0 (2 ^ 8))), .int .u8 (IntKind.u8.wrap (Int.fdiv n0 (2 ^ 16))), .int .u8 (IntKind.u8.wrap (Int.fdiv n0 (2 ^ 24)))] 5 w fun k14 w1 =>
  ∃ s15 : ByteArray, ∃ w2, (convert 44 9 (.slice (some ⟨k14, 0, none⟩) 4 4)).run Tryz.prog w1 = .ok (.string s15) w2 ∧
  R (.string s15) w2
theorem revetmentref02_four_eq (n0 : Int) (w : World) (R : Value → World → Prop) : revetmentref02_four n0 w R = fnP Tryz.prog Tryz.f83 .o [.int .u32 n0] w R := by kernel_rfl
theorem revetmentref02_four_calls {n0 : Int} {w : World} {R : Value → World → Prop} (h : revetmentref02_four n0 w R) : Calls Tryz.prog 83 #[.int .u32 n0] w fun e w1 => ∃ v, e = .returned v ∧ R v w1 := fnP_calls callable Tryz.func83 (revetmentref02_four_eq n0 w R ▸ h)

/-- revetment/revetmentref02.Sum -/
def revetmentref02_Sum (s0 : ByteArray) (w : World) (R : Value → World → Prop) : Prop :=
  Calls Tryz.prog 106 #[.int .u32 0, .string s0] w fun e w1 => ∃ n4 : Int, e = .returned (.int .u32 n4) ∧
  R (.int .u32 n4) w1
theorem revetmentref02_Sum_eq (s0 : ByteArray) (w : World) (R : Value → World → Prop) : revetmentref02_Sum s0 w R = fnP Tryz.prog Tryz.f84 .o [.string s0] w R := by kernel_rfl
theorem revetmentref02_Sum_calls {s0 : ByteArray} {w : World} {R : Value → World → Prop} (h : revetmentref02_Sum s0 w R) : Calls Tryz.prog 84 #[.string s0] w fun e w1 => ∃ v, e = .returned v ∧ R v w1 := fnP_calls callable Tryz.func84 (revetmentref02_Sum_eq s0 w R ▸ h)

/-- revetment/revetmentref03.Size -/
def revetmentref03_Size (p0 : Option Addr) (l0 c0 : Nat) (w : World) (R : Value → World → Prop) : Prop :=
  ((decide ((l0 : Int) > 64)) = true →
  R (.tuple #[.int .i64 0, .int .i64 1]) w) ∧
  ((decide ((l0 : Int) > 64)) = false →
  LoopP (fun I => I [.int .i64 0, .int .i64 0] w) fun K vs w1 => ∃ n4 : Int, ∃ n5 : Int, vs = [.int .i64 n4, .int .i64 n5] ∧
  ((decide (n5 < (l0 : Int))) = true →
  ∃ a17 : Addr, p0 = some a17 ∧ (0 : Int) ≤ n5 ∧ n5 < (l0 : Int) ∧
  ∃ n18 : Int, w1.cell? (Addr.add a17 (n5.toNat * 1)) = some (.int .i64 n18) ∧
  ((decide (n18 < 1)) = true →
  R (.tuple #[.int .i64 0, .int .i64 1]) w1) ∧
  ((decide (n18 < 1)) = false →
  ∃ a23 : Addr, p0 = some a23 ∧ (0 : Int) ≤ n5 ∧ n5 < (l0 : Int) ∧
  ∃ n24 : Int, w1.cell? (Addr.add a23 (n5.toNat * 1)) = some (.int .i64 n24) ∧
  ((decide (n24 > 8)) = true →
  R (.tuple #[.int .i64 0, .int .i64 1]) w1) ∧
  ((decide (n24 > 8)) = false →
  ∃ a30 : Addr, p0 = some a30 ∧ (0 : Int) ≤ n5 ∧ n5 < (l0 : Int) ∧
  ∃ n31 : Int, w1.cell? (Addr.add a30 (n5.toNat * 1)) = some (.int .i64 n31) ∧
  K [.int .i64 (IntKind.i64.wrap (n4 + n31)), .int .i64 (IntKind.i64.wrap (n5 + 1))] w1))) ∧
  ((decide (n5 < (l0 : Int))) = false →
  R (.tuple #[.int .i64 n4, .int .i64 0]) w1))
theorem revetmentref03_Size_eq (p0 : Option Addr) (l0 c0 : Nat) (w : World) (R : Value → World → Prop) : revetmentref03_Size p0 l0 c0 w R = fnP Tryz.prog Tryz.f85 (.s .o (.s .o (.s .o (.s (.s .o (.b (.l [(4, .one (.int .i64)), (5, .one (.int .i64))] .o))) .o)))) [.slice p0 l0 c0] w R := by kernel_rfl
theorem revetmentref03_Size_calls {p0 : Option Addr} {l0 c0 : Nat} {w : World} {R : Value → World → Prop} (h : revetmentref03_Size p0 l0 c0 w R) : Calls Tryz.prog 85 #[.slice p0 l0 c0] w fun e w1 => ∃ v, e = .returned v ∧ R v w1 := fnP_calls callable Tryz.func85 (revetmentref03_Size_eq p0 l0 c0 w R ▸ h)

/-- revetment/revetmentref12.Head -/
def revetmentref12_Head (s0 : ByteArray) (w : World) (R : Value → World → Prop) : Prop :=
  Alloc #[.int .u64 0, .int .i64 0, .slice none 0 0] 99 w fun k2 w1 =>
  (((s0.size : Int) != 64) = true →
  St ⟨k2, 0, none⟩ (.int .u64 0) w1 fun w2 =>
  St ⟨k2, 1, none⟩ (.int .i64 0) w2 fun w3 =>
  St ⟨k2, 2, none⟩ (.slice none 0 0) w3 fun w4 =>
  ∃ nr2_0 : Int, ∃ nr2_1 : Int, ∃ (pr2_2 : Option Addr) (lr2_2 cr2_2 : Nat), (w4.cell? ⟨k2, 0, none⟩ = some (.int .u64 nr2_0) ∧ w4.cell? ⟨k2, 1, none⟩ = some (.int .i64 nr2_1) ∧ w4.cell? ⟨k2, 2, none⟩ = some (.slice pr2_2 lr2_2 cr2_2)) ∧
  R (.tuple #[.agg #[.int .u64 nr2_0, .int .i64 nr2_1, .slice pr2_2 lr2_2 cr2_2], .int .u32 0, .int .i64 31]) w4) ∧
  (((s0.size : Int) != 64) = false →
  Calls Tryz.prog 47 #[.string s0] w1 fun e w5 => ∃ s18_0 : ByteArray, ∃ b18_1 : Bool, e = .returned (.tuple #[.string s18_0, .bool b18_1]) ∧
  ((!b18_1) = true →
  St ⟨k2, 0, none⟩ (.int .u64 0) w5 fun w6 =>
  St ⟨k2, 1, none⟩ (.int .i64 0) w6 fun w7 =>
  St ⟨k2, 2, none⟩ (.slice none 0 0) w7 fun w8 =>
  ∃ nr2_0_1 : Int, ∃ nr2_1_1 : Int, ∃ (pr2_2_1 : Option Addr) (lr2_2_1 cr2_2_1 : Nat), (w8.cell? ⟨k2, 0, none⟩ = some (.int .u64 nr2_0_1) ∧ w8.cell? ⟨k2, 1, none⟩ = some (.int .i64 nr2_1_1) ∧ w8.cell? ⟨k2, 2, none⟩ = some (.slice pr2_2_1 lr2_2_1 cr2_2_1)) ∧
  R (.tuple #[.agg #[.int .u64 nr2_0_1, .int .i64 nr2_1_1, .slice pr2_2_1 lr2_2_1 cr2_2_1], .int .u32 0, .int .i64 80]) w8) ∧
  ((!b18_1) = false →
  ∃ s25 : ByteArray, ∃ w9, (Instr.sliceAt 9 (.string s18_0) none (some (.int .i64 4)) none).run Tryz.prog w5 = .ok (.string s25) w9 ∧
  ((!(s25.toList == (ByteArray.mk #[82, 86, 84, 74]).toList)) = true →
  St ⟨k2, 0, none⟩ (.int .u64 0) w9 fun w10 =>
  St ⟨k2, 1, none⟩ (.int .i64 0) w10 fun w11 =>
  St ⟨k2, 2, none⟩ (.slice none 0 0) w11 fun w12 =>
  ∃ nr2_0_2 : Int, ∃ nr2_1_2 : Int, ∃ (pr2_2_2 : Option Addr) (lr2_2_2 cr2_2_2 : Nat), (w12.cell? ⟨k2, 0, none⟩ = some (.int .u64 nr2_0_2) ∧ w12.cell? ⟨k2, 1, none⟩ = some (.int .i64 nr2_1_2) ∧ w12.cell? ⟨k2, 2, none⟩ = some (.slice pr2_2_2 lr2_2_2 cr2_2_2)) ∧
  R (.tuple #[.agg #[.int .u64 nr2_0_2, .int .i64 nr2_1_2, .slice pr2_2_2 lr2_2_2 cr2_2_2], .int .u32 0, .int .i64 81]) w12) ∧
  ((!(s25.toList == (ByteArray.mk #[82, 86, 84, 74]).toList)) = false →
  ∃ s30 : ByteArray, ∃ w13, (Instr.sliceAt 9 (.string s18_0) (some (.int .i64 4)) (some (.int .i64 19)) none).run Tryz.prog w9 = .ok (.string s30) w13 ∧
  Alloc #[.int .i64 8, .int .i64 2, .int .i64 1, .int .i64 4] 3 w13 fun k31 w14 =>
  Calls Tryz.prog 48 #[.string s30, .slice (some ⟨k31, 0, none⟩) 4 4] w14 fun e_1 w15 => ∃ (p32_0 : Option Addr) (l32_0 c32_0 : Nat), ∃ n32_1 : Int, e_1 = .returned (.tuple #[.slice p32_0 l32_0 c32_0, .int .i64 n32_1]) ∧
  ∃ D : World → Prop, D w15.drew ∧
  ∃ a36 : Addr, p32_0 = some a36 ∧ (0 : Int) ≤ 0 ∧ 0 < (l32_0 : Int) ∧
  ∃ n37 : Int, (∀ w, D w → w.cell? a36 = some (.int .u64 n37)) ∧
  ∃ a39 : Addr, p32_0 = some a39 ∧ (0 : Int) ≤ 1 ∧ 1 < (l32_0 : Int) ∧
  ∃ n40 : Int, (∀ w, D w → w.cell? (a39.add 1) = some (.int .u64 n40)) ∧
  Alloc #[.int .u64 0, .int .i64 0, .slice none 0 0] 99 w15.drew fun k9 w16 =>
  D w16 ∧
  St ⟨k9, 0, none⟩ (.int .u64 n37) w16 fun w17 =>
  St ⟨k9, 1, none⟩ (.int .i64 (IntKind.i64.wrap n40)) w17 fun w18 =>
  St ⟨k9, 2, none⟩ (.slice none 0 0) w18 fun w19 =>
  ∃ a44 : Addr, p32_0 = some a44 ∧ (0 : Int) ≤ 2 ∧ 2 < (l32_0 : Int) ∧
  ∃ n45 : Int, w19.cell? (a44.add 2) = some (.int .u64 n45) ∧
  ((decide (n45 > 40)) = true →
  St ⟨k2, 0, none⟩ (.int .u64 0) w19 fun w20 =>
  St ⟨k2, 1, none⟩ (.int .i64 0) w20 fun w21 =>
  St ⟨k2, 2, none⟩ (.slice none 0 0) w21 fun w22 =>
  ∃ nr2_0_3 : Int, ∃ nr2_1_3 : Int, ∃ (pr2_2_3 : Option Addr) (lr2_2_3 cr2_2_3 : Nat), (w22.cell? ⟨k2, 0, none⟩ = some (.int .u64 nr2_0_3) ∧ w22.cell? ⟨k2, 1, none⟩ = some (.int .i64 nr2_1_3) ∧ w22.cell? ⟨k2, 2, none⟩ = some (.slice pr2_2_3 lr2_2_3 cr2_2_3)) ∧
  R (.tuple #[.agg #[.int .u64 nr2_0_3, .int .i64 nr2_1_3, .slice pr2_2_3 lr2_2_3 cr2_2_3], .int .u32 0, .int .i64 1]) w22) ∧
  ((decide (n45 > 40)) = false →
  LoopP (fun I => I [.int .i64 0] w19) fun K vs w23 => ∃ n10 : Int, vs = [.int .i64 n10] ∧
  ∃ a50 : Addr, p32_0 = some a50 ∧ (0 : Int) ≤ 2 ∧ 2 < (l32_0 : Int) ∧
  ∃ n51 : Int, w23.cell? (a50.add 2) = some (.int .u64 n51) ∧
  ((decide (n10 < (IntKind.i64.wrap n51))) = true →
  ∃ n59 : Int, ∃ w24, (Instr.index 9 (.string s18_0) (.int .i64 (IntKind.i64.wrap (19 + n10)))).run Tryz.prog w23 = .ok (.int .u8 n59) w24 ∧
  ∃ (p62 : Option Addr) (l62 c62 : Nat), w24.cell? ⟨k9, 2, none⟩ = some (.slice p62 l62 c62) ∧
  Alloc #[.int .i64 (IntKind.i64.wrap (Int.tdiv (IntKind.i64.wrap n59) 4)), .int .i64 (Int.tmod (IntKind.i64.wrap n59) 4), .string (ByteArray.mk #[])] 115 w24 fun k68 w25 =>
  ∃ (p69 : Option Addr) (l69 c69 : Nat), ∃ w26, (builtin .append #[61, 61] 61 #[false, false] #[.slice p62 l62 c62, .slice (some ⟨k68, 0, none⟩) 1 1]).run Tryz.prog w25 = .ok (.value (.slice p69 l69 c69)) w26 ∧
  St ⟨k9, 2, none⟩ (.slice p69 l69 c69) w26 fun w27 =>
  K [.int .i64 (IntKind.i64.wrap (n10 + 1))] w27) ∧
  ((decide (n10 < (IntKind.i64.wrap n51))) = false →
  ∃ D_1 : World → Prop, D_1 w23.drew ∧
  ∃ n71_0 : Int, ∃ n71_1 : Int, ∃ (p71_2 : Option Addr) (l71_2 c71_2 : Nat), (∀ w, D_1 w → w.cell? ⟨k9, 0, none⟩ = some (.int .u64 n71_0) ∧ w.cell? ⟨k9, 1, none⟩ = some (.int .i64 n71_1) ∧ w.cell? ⟨k9, 2, none⟩ = some (.slice p71_2 l71_2 c71_2)) ∧
  Calls Tryz.prog 107 #[.agg #[.int .u64 n71_0, .int .i64 n71_1, .slice p71_2 l71_2 c71_2]] w23.drew fun e_2 w28 => ∃ b72 : Bool, e_2 = .returned (.bool b72) ∧
  D_1 w28 ∧
  ((!b72) = true →
  St ⟨k2, 0, none⟩ (.int .u64 0) w28 fun w29 =>
  St ⟨k2, 1, none⟩ (.int .i64 0) w29 fun w30 =>
  St ⟨k2, 2, none⟩ (.slice none 0 0) w30 fun w31 =>
  ∃ nr2_0_4 : Int, ∃ nr2_1_4 : Int, ∃ (pr2_2_4 : Option Addr) (lr2_2_4 cr2_2_4 : Nat), (w31.cell? ⟨k2, 0, none⟩ = some (.int .u64 nr2_0_4) ∧ w31.cell? ⟨k2, 1, none⟩ = some (.int .i64 nr2_1_4) ∧ w31.cell? ⟨k2, 2, none⟩ = some (.slice pr2_2_4 lr2_2_4 cr2_2_4)) ∧
  R (.tuple #[.agg #[.int .u64 nr2_0_4, .int .i64 nr2_1_4, .slice pr2_2_4 lr2_2_4 cr2_2_4], .int .u32 0, .int .i64 1]) w31) ∧
  ((!b72) = false →
  ∃ n75_0 : Int, ∃ n75_1 : Int, ∃ (p75_2 : Option Addr) (l75_2 c75_2 : Nat), (∀ w, D_1 w → w.cell? ⟨k9, 0, none⟩ = some (.int .u64 n75_0) ∧ w.cell? ⟨k9, 1, none⟩ = some (.int .i64 n75_1) ∧ w.cell? ⟨k9, 2, none⟩ = some (.slice p75_2 l75_2 c75_2)) ∧
  ∃ a77 : Addr, p32_0 = some a77 ∧ (0 : Int) ≤ 3 ∧ 3 < (l32_0 : Int) ∧
  ∃ n78 : Int, (∀ w, D_1 w → w.cell? (a77.add 3) = some (.int .u64 n78)) ∧
  Calls Tryz.prog 94 #[.agg #[.int .u64 n75_0, .int .i64 n75_1, .slice p75_2 l75_2 c75_2], .int .u32 (IntKind.u32.wrap n78)] w28 fun e_3 w32 => ∃ s80 : ByteArray, e_3 = .returned (.string s80) ∧
  D_1 w32 ∧
  ((!(s80.toList == s0.toList)) = true →
  St ⟨k2, 0, none⟩ (.int .u64 0) w32 fun w33 =>
  St ⟨k2, 1, none⟩ (.int .i64 0) w33 fun w34 =>
  St ⟨k2, 2, none⟩ (.slice none 0 0) w34 fun w35 =>
  ∃ nr2_0_5 : Int, ∃ nr2_1_5 : Int, ∃ (pr2_2_5 : Option Addr) (lr2_2_5 cr2_2_5 : Nat), (w35.cell? ⟨k2, 0, none⟩ = some (.int .u64 nr2_0_5) ∧ w35.cell? ⟨k2, 1, none⟩ = some (.int .i64 nr2_1_5) ∧ w35.cell? ⟨k2, 2, none⟩ = some (.slice pr2_2_5 lr2_2_5 cr2_2_5)) ∧
  R (.tuple #[.agg #[.int .u64 nr2_0_5, .int .i64 nr2_1_5, .slice pr2_2_5 lr2_2_5 cr2_2_5], .int .u32 0, .int .i64 1]) w35) ∧
  ((!(s80.toList == s0.toList)) = false →
  ∃ D_2 : World → Prop, D_2 w32.drew ∧
  ∃ n85_0 : Int, ∃ n85_1 : Int, ∃ (p85_2 : Option Addr) (l85_2 c85_2 : Nat), (∀ w, D_2 w → w.cell? ⟨k9, 0, none⟩ = some (.int .u64 n85_0) ∧ w.cell? ⟨k9, 1, none⟩ = some (.int .i64 n85_1) ∧ w.cell? ⟨k9, 2, none⟩ = some (.slice p85_2 l85_2 c85_2)) ∧
  ∃ a87 : Addr, p32_0 = some a87 ∧ (0 : Int) ≤ 3 ∧ 3 < (l32_0 : Int) ∧
  ∃ n88 : Int, (∀ w, D_2 w → w.cell? (a87.add 3) = some (.int .u64 n88)) ∧
  St ⟨k2, 0, none⟩ (.int .u64 n85_0) w32.drew fun w36 =>
  St ⟨k2, 1, none⟩ (.int .i64 n85_1) w36 fun w37 =>
  St ⟨k2, 2, none⟩ (.slice p85_2 l85_2 c85_2) w37 fun w38 =>
  D_2 w38 ∧
  ∃ nr2_0_6 : Int, ∃ nr2_1_6 : Int, ∃ (pr2_2_6 : Option Addr) (lr2_2_6 cr2_2_6 : Nat), (w38.cell? ⟨k2, 0, none⟩ = some (.int .u64 nr2_0_6) ∧ w38.cell? ⟨k2, 1, none⟩ = some (.int .i64 nr2_1_6) ∧ w38.cell? ⟨k2, 2, none⟩ = some (.slice pr2_2_6 lr2_2_6 cr2_2_6)) ∧
  R (.tuple #[.agg #[.int .u64 nr2_0_6, .int .i64 nr2_1_6, .slice pr2_2_6 lr2_2_6 cr2_2_6], .int .u32 (IntKind.u32.wrap n88), .int .i64 0]) w38)))))))
theorem revetmentref12_Head_eq (s0 : ByteArray) (w : World) (R : Value → World → Prop) : revetmentref12_Head s0 w R = fnP Tryz.prog Tryz.f86 (.s .o (.s .o (.s .o (.s .o (.s .o (.s .o (.s .o (.s .o (.s (.s .o (.b (.l [(10, .one (.int .i64))] .o))) .o))))))))) [.string s0] w R := by kernel_rfl
theorem revetmentref12_Head_calls {s0 : ByteArray} {w : World} {R : Value → World → Prop} (h : revetmentref12_Head s0 w R) : Calls Tryz.prog 86 #[.string s0] w fun e w1 => ∃ v, e = .returned v ∧ R v w1 := fnP_calls callable Tryz.func86 (revetmentref12_Head_eq s0 w R ▸ h)

/-- revetment/revetmentref12.Decode -/
def revetmentref12_Decode (s0 : ByteArray) (p1 : Option Addr) (l1 c1 : Nat) (w : World) (R : Value → World → Prop) : Prop :=
  Alloc #[.int .u64 0, .int .i64 0, .slice none 0 0] 99 w fun k4 w1 =>
  Calls Tryz.prog 86 #[.string s0] w1 fun e w2 => ∃ n14_0_0 : Int, ∃ n14_0_1 : Int, ∃ (p14_0_2 : Option Addr) (l14_0_2 c14_0_2 : Nat), ∃ n14_1 : Int, ∃ n14_2 : Int, e = .returned (.tuple #[.agg #[.int .u64 n14_0_0, .int .i64 n14_0_1, .slice p14_0_2 l14_0_2 c14_0_2], .int .u32 n14_1, .int .i64 n14_2]) ∧
  Alloc #[.int .u64 0, .int .i64 0, .slice none 0 0] 99 w2 fun k6 w3 =>
  St ⟨k6, 0, none⟩ (.int .u64 n14_0_0) w3 fun w4 =>
  St ⟨k6, 1, none⟩ (.int .i64 n14_0_1) w4 fun w5 =>
  St ⟨k6, 2, none⟩ (.slice p14_0_2 l14_0_2 c14_0_2) w5 fun w6 =>
  ((n14_2 != 0) = true →
  St ⟨k4, 0, none⟩ (.int .u64 0) w6 fun w7 =>
  St ⟨k4, 1, none⟩ (.int .i64 0) w7 fun w8 =>
  St ⟨k4, 2, none⟩ (.slice none 0 0) w8 fun w9 =>
  ∃ nr4_0 : Int, ∃ nr4_1 : Int, ∃ (pr4_2 : Option Addr) (lr4_2 cr4_2 : Nat), (w9.cell? ⟨k4, 0, none⟩ = some (.int .u64 nr4_0) ∧ w9.cell? ⟨k4, 1, none⟩ = some (.int .i64 nr4_1) ∧ w9.cell? ⟨k4, 2, none⟩ = some (.slice pr4_2 lr4_2 cr4_2)) ∧
  R (.tuple #[.agg #[.int .u64 nr4_0, .int .i64 nr4_1, .slice pr4_2 lr4_2 cr4_2], .int .i64 n14_2]) w9) ∧
  ((n14_2 != 0) = false →
  ∃ (p25 : Option Addr) (l25 c25 : Nat), w6.cell? ⟨k6, 2, none⟩ = some (.slice p25 l25 c25) ∧
  (((l1 : Int) != (l25 : Int)) = true →
  St ⟨k4, 0, none⟩ (.int .u64 0) w6 fun w10 =>
  St ⟨k4, 1, none⟩ (.int .i64 0) w10 fun w11 =>
  St ⟨k4, 2, none⟩ (.slice none 0 0) w11 fun w12 =>
  ∃ nr4_0_1 : Int, ∃ nr4_1_1 : Int, ∃ (pr4_2_1 : Option Addr) (lr4_2_1 cr4_2_1 : Nat), (w12.cell? ⟨k4, 0, none⟩ = some (.int .u64 nr4_0_1) ∧ w12.cell? ⟨k4, 1, none⟩ = some (.int .i64 nr4_1_1) ∧ w12.cell? ⟨k4, 2, none⟩ = some (.slice pr4_2_1 lr4_2_1 cr4_2_1)) ∧
  R (.tuple #[.agg #[.int .u64 nr4_0_1, .int .i64 nr4_1_1, .slice pr4_2_1 lr4_2_1 cr4_2_1], .int .i64 31]) w12) ∧
  (((l1 : Int) != (l25 : Int)) = false →
  Alloc #[] 115 w6 fun k29 w13 =>
  LoopP (fun I => I [.string (ByteArray.mk #[]), .slice (some ⟨k29, 0, none⟩) 0 0, .int .i64 0] w13) fun K vs w14 => ∃ s9 : ByteArray, ∃ (p10 : Option Addr) (l10 c10 : Nat), ∃ n11 : Int, vs = [.string s9, .slice p10 l10 c10, .int .i64 n11] ∧
  ((decide (n11 < (l1 : Int))) = true →
  ∃ a38 : Addr, p1 = some a38 ∧ (0 : Int) ≤ n11 ∧ n11 < (l1 : Int) ∧
  ∃ s39 : ByteArray, w14.cell? (Addr.add a38 (n11.toNat * 1)) = some (.string s39) ∧
  (((s39.size : Int) != 64) = true →
  St ⟨k4, 0, none⟩ (.int .u64 0) w14 fun w15 =>
  St ⟨k4, 1, none⟩ (.int .i64 0) w15 fun w16 =>
  St ⟨k4, 2, none⟩ (.slice none 0 0) w16 fun w17 =>
  ∃ nr4_0_2 : Int, ∃ nr4_1_2 : Int, ∃ (pr4_2_2 : Option Addr) (lr4_2_2 cr4_2_2 : Nat), (w17.cell? ⟨k4, 0, none⟩ = some (.int .u64 nr4_0_2) ∧ w17.cell? ⟨k4, 1, none⟩ = some (.int .i64 nr4_1_2) ∧ w17.cell? ⟨k4, 2, none⟩ = some (.slice pr4_2_2 lr4_2_2 cr4_2_2)) ∧
  R (.tuple #[.agg #[.int .u64 nr4_0_2, .int .i64 nr4_1_2, .slice pr4_2_2 lr4_2_2 cr4_2_2], .int .i64 31]) w17) ∧
  (((s39.size : Int) != 64) = false →
  ∃ a46 : Addr, p1 = some a46 ∧ (0 : Int) ≤ n11 ∧ n11 < (l1 : Int) ∧
  ∃ s47 : ByteArray, w14.cell? (Addr.add a46 (n11.toNat * 1)) = some (.string s47) ∧
  ((s9.size + s47.size : Nat) : Int) ≤ 9223372036854775807 ∧
  ∃ D : World → Prop, D w14.drew ∧
  ∃ (p51 : Option Addr) (l51 c51 : Nat), (∀ w, D w → w.cell? ⟨k6, 2, none⟩ = some (.slice p51 l51 c51)) ∧
  ∃ a53 : Addr, p51 = some a53 ∧ (0 : Int) ≤ n11 ∧ n11 < (l51 : Int) ∧
  ∃ n55 : Int, (∀ w, D w → w.cell? (Addr.add a53 (n11.toNat * 3)) = some (.int .i64 n55)) ∧
  ∃ (p57 : Option Addr) (l57 c57 : Nat), (∀ w, D w → w.cell? ⟨k6, 2, none⟩ = some (.slice p57 l57 c57)) ∧
  ∃ a59 : Addr, p57 = some a59 ∧ (0 : Int) ≤ n11 ∧ n11 < (l57 : Int) ∧
  ∃ n61 : Int, (∀ w, D w → w.cell? (Addr.add (Addr.add a59 (n11.toNat * 3)) 1) = some (.int .i64 n61)) ∧
  ∃ a64 : Addr, p1 = some a64 ∧ (0 : Int) ≤ n11 ∧ n11 < (l1 : Int) ∧
  ∃ s65 : ByteArray, (∀ w, D w → w.cell? (Addr.add a64 (n11.toNat * 1)) = some (.string s65)) ∧
  Alloc #[.int .i64 n55, .int .i64 n61, .string s65] 115 w14.drew fun k67 w18 =>
  D w18 ∧
  ∃ (p68 : Option Addr) (l68 c68 : Nat), ∃ w19, (builtin .append #[61, 61] 61 #[false, false] #[.slice p10 l10 c10, .slice (some ⟨k67, 0, none⟩) 1 1]).run Tryz.prog w18 = .ok (.value (.slice p68 l68 c68)) w19 ∧
  D w19 ∧
  K [.string (s9 ++ s47), .slice p68 l68 c68, .int .i64 (IntKind.i64.wrap (n11 + 1))] w19)) ∧
  ((decide (n11 < (l1 : Int))) = false →
  Calls Tryz.prog 84 #[.string s9] w14 fun e_1 w20 => ∃ n70 : Int, e_1 = .returned (.int .u32 n70) ∧
  ((n70 != n14_1) = true →
  St ⟨k4, 0, none⟩ (.int .u64 0) w20 fun w21 =>
  St ⟨k4, 1, none⟩ (.int .i64 0) w21 fun w22 =>
  St ⟨k4, 2, none⟩ (.slice none 0 0) w22 fun w23 =>
  ∃ nr4_0_3 : Int, ∃ nr4_1_3 : Int, ∃ (pr4_2_3 : Option Addr) (lr4_2_3 cr4_2_3 : Nat), (w23.cell? ⟨k4, 0, none⟩ = some (.int .u64 nr4_0_3) ∧ w23.cell? ⟨k4, 1, none⟩ = some (.int .i64 nr4_1_3) ∧ w23.cell? ⟨k4, 2, none⟩ = some (.slice pr4_2_3 lr4_2_3 cr4_2_3)) ∧
  R (.tuple #[.agg #[.int .u64 nr4_0_3, .int .i64 nr4_1_3, .slice pr4_2_3 lr4_2_3 cr4_2_3], .int .i64 80]) w23) ∧
  ((n70 != n14_1) = false →
  St ⟨k6, 2, none⟩ (.slice p10 l10 c10) w20 fun w24 =>
  ∃ n76_0 : Int, ∃ n76_1 : Int, ∃ (p76_2 : Option Addr) (l76_2 c76_2 : Nat), (w24.cell? ⟨k6, 0, none⟩ = some (.int .u64 n76_0) ∧ w24.cell? ⟨k6, 1, none⟩ = some (.int .i64 n76_1) ∧ w24.cell? ⟨k6, 2, none⟩ = some (.slice p76_2 l76_2 c76_2)) ∧
  St ⟨k4, 0, none⟩ (.int .u64 n76_0) w24 fun w25 =>
  St ⟨k4, 1, none⟩ (.int .i64 n76_1) w25 fun w26 =>
  St ⟨k4, 2, none⟩ (.slice p76_2 l76_2 c76_2) w26 fun w27 =>
  ∃ nr4_0_4 : Int, ∃ nr4_1_4 : Int, ∃ (pr4_2_4 : Option Addr) (lr4_2_4 cr4_2_4 : Nat), (w27.cell? ⟨k4, 0, none⟩ = some (.int .u64 nr4_0_4) ∧ w27.cell? ⟨k4, 1, none⟩ = some (.int .i64 nr4_1_4) ∧ w27.cell? ⟨k4, 2, none⟩ = some (.slice pr4_2_4 lr4_2_4 cr4_2_4)) ∧
  R (.tuple #[.agg #[.int .u64 nr4_0_4, .int .i64 nr4_1_4, .slice pr4_2_4 lr4_2_4 cr4_2_4], .int .i64 0]) w27))))
theorem revetmentref12_Decode_eq (s0 : ByteArray) (p1 : Option Addr) (l1 c1 : Nat) (w : World) (R : Value → World → Prop) : revetmentref12_Decode s0 p1 l1 c1 w R = fnP Tryz.prog Tryz.f87 (.s .o (.s .o (.s .o (.s .o (.s .o (.s .o (.s (.s .o (.b (.l [(9, .one .str), (10, .one .slice), (11, .one (.int .i64))] .o))) .o))))))) [.string s0, .slice p1 l1 c1] w R := by kernel_rfl
theorem revetmentref12_Decode_calls {s0 : ByteArray} {p1 : Option Addr} {l1 c1 : Nat} {w : World} {R : Value → World → Prop} (h : revetmentref12_Decode s0 p1 l1 c1 w R) : Calls Tryz.prog 87 #[.string s0, .slice p1 l1 c1] w fun e w1 => ∃ v, e = .returned v ∧ R v w1 := fnP_calls callable Tryz.func87 (revetmentref12_Decode_eq s0 p1 l1 c1 w R ▸ h)

/-- revetment/revetmentref12.May -/
def revetmentref12_May (n0_0 : Int) (n0_1 : Int) (p0_2 : Option Addr) (l0_2 c0_2 : Nat) (w : World) (R : Value → World → Prop) : Prop :=
  Alloc #[.int .u64 n0_0, .int .i64 n0_1, .slice p0_2 l0_2 c0_2] 99 w fun k1 w1 =>
  LoopP (fun I => I [.int .i64 0] w1) fun K vs w2 => ∃ n3 : Int, vs = [.int .i64 n3] ∧
  ∃ (p6 : Option Addr) (l6 c6 : Nat), w2.cell? ⟨k1, 2, none⟩ = some (.slice p6 l6 c6) ∧
  ((decide (n3 < (l6 : Int))) = true →
  ∃ (p12 : Option Addr) (l12 c12 : Nat), w2.cell? ⟨k1, 2, none⟩ = some (.slice p12 l12 c12) ∧
  ∃ a14 : Addr, p12 = some a14 ∧ (0 : Int) ≤ n3 ∧ n3 < (l12 : Int) ∧
  ∃ s16 : ByteArray, w2.cell? (Addr.add (Addr.add a14 (n3.toNat * 3)) 2) = some (.string s16) ∧
  (((s16.size : Int) != 64) = true →
  R (.bool false) w2) ∧
  (((s16.size : Int) != 64) = false →
  K [.int .i64 (IntKind.i64.wrap (n3 + 1))] w2)) ∧
  ((decide (n3 < (l6 : Int))) = false →
  ∃ n19_0 : Int, ∃ n19_1 : Int, ∃ (p19_2 : Option Addr) (l19_2 c19_2 : Nat), (w2.cell? ⟨k1, 0, none⟩ = some (.int .u64 n19_0) ∧ w2.cell? ⟨k1, 1, none⟩ = some (.int .i64 n19_1) ∧ w2.cell? ⟨k1, 2, none⟩ = some (.slice p19_2 l19_2 c19_2)) ∧
  Calls Tryz.prog 107 #[.agg #[.int .u64 n19_0, .int .i64 n19_1, .slice p19_2 l19_2 c19_2]] w2 fun e w3 => ∃ b20 : Bool, e = .returned (.bool b20) ∧
  R (.bool b20) w3)
theorem revetmentref12_May_eq (n0_0 : Int) (n0_1 : Int) (p0_2 : Option Addr) (l0_2 c0_2 : Nat) (w : World) (R : Value → World → Prop) : revetmentref12_May n0_0 n0_1 p0_2 l0_2 c0_2 w R = fnP Tryz.prog Tryz.f93 (.s .o (.s (.s .o (.b (.l [(3, .one (.int .i64))] .o))) .o)) [.agg #[.int .u64 n0_0, .int .i64 n0_1, .slice p0_2 l0_2 c0_2]] w R := by kernel_rfl
theorem revetmentref12_May_calls {n0_0 : Int} {n0_1 : Int} {p0_2 : Option Addr} {l0_2 c0_2 : Nat} {w : World} {R : Value → World → Prop} (h : revetmentref12_May n0_0 n0_1 p0_2 l0_2 c0_2 w R) : Calls Tryz.prog 93 #[.agg #[.int .u64 n0_0, .int .i64 n0_1, .slice p0_2 l0_2 c0_2]] w fun e w1 => ∃ v, e = .returned v ∧ R v w1 := fnP_calls callable Tryz.func93 (revetmentref12_May_eq n0_0 n0_1 p0_2 l0_2 c0_2 w R ▸ h)

/-- revetment/revetmentref12.head -/
def revetmentref12_head (n0_0 : Int) (n0_1 : Int) (p0_2 : Option Addr) (l0_2 c0_2 : Nat) (n1 : Int) (w : World) (R : Value → World → Prop) : Prop :=
  Alloc #[.int .u64 n0_0, .int .i64 n0_1, .slice p0_2 l0_2 c0_2] 99 w fun k2 w1 =>
  ∃ n13 : Int, w1.cell? ⟨k2, 0, none⟩ = some (.int .u64 n13) ∧
  ∃ n15 : Int, w1.cell? ⟨k2, 1, none⟩ = some (.int .i64 n15) ∧
  ∃ (p18 : Option Addr) (l18 c18 : Nat), w1.cell? ⟨k2, 2, none⟩ = some (.slice p18 l18 c18) ∧
  Alloc #[.int .u64 n13, .int .u64 (IntKind.u64.wrap n15), .int .u64 (IntKind.u64.wrap (l18 : Int)), .int .u64 (IntKind.u64.wrap n1)] 57 w1 fun k23 w2 =>
  Alloc #[.int .i64 8, .int .i64 2, .int .i64 1, .int .i64 4] 3 w2 fun k24 w3 =>
  Calls Tryz.prog 74 #[.slice (some ⟨k23, 0, none⟩) 4 4, .slice (some ⟨k24, 0, none⟩) 4 4] w3 fun e w4 => ∃ s25_0 : ByteArray, ∃ n25_1 : Int, e = .returned (.tuple #[.string s25_0, .int .i64 n25_1]) ∧
  (((ByteArray.mk #[82, 86, 84, 74]).size + s25_0.size : Nat) : Int) ≤ 9223372036854775807 ∧
  LoopP (fun I => I [.string ((ByteArray.mk #[82, 86, 84, 74]) ++ s25_0), .int .i64 0] w4) fun K vs w5 => ∃ s7 : ByteArray, ∃ n8 : Int, vs = [.string s7, .int .i64 n8] ∧
  ∃ (p32 : Option Addr) (l32 c32 : Nat), w5.cell? ⟨k2, 2, none⟩ = some (.slice p32 l32 c32) ∧
  ((decide (n8 < (l32 : Int))) = true →
  ∃ D : World → Prop, D w5.drew ∧
  ∃ (p39 : Option Addr) (l39 c39 : Nat), (∀ w, D w → w.cell? ⟨k2, 2, none⟩ = some (.slice p39 l39 c39)) ∧
  ∃ a41 : Addr, p39 = some a41 ∧ (0 : Int) ≤ n8 ∧ n8 < (l39 : Int) ∧
  ∃ n43 : Int, (∀ w, D w → w.cell? (Addr.add a41 (n8.toNat * 3)) = some (.int .i64 n43)) ∧
  ∃ (p46 : Option Addr) (l46 c46 : Nat), (∀ w, D w → w.cell? ⟨k2, 2, none⟩ = some (.slice p46 l46 c46)) ∧
  ∃ a48 : Addr, p46 = some a48 ∧ (0 : Int) ≤ n8 ∧ n8 < (l46 : Int) ∧
  ∃ n50 : Int, (∀ w, D w → w.cell? (Addr.add (Addr.add a48 (n8.toNat * 3)) 1) = some (.int .i64 n50)) ∧
  Alloc #[.int .u8 (IntKind.u8.wrap (IntKind.i64.wrap ((IntKind.i64.wrap (4 * n43)) + n50)))] 5 w5.drew fun k53 w6 =>
  D w6 ∧
  ∃ s54 : ByteArray, (∀ x0, x0 = w6 → (convert 44 9 (.slice (some ⟨k53, 0, none⟩) 1 1)).run Tryz.prog x0 = .ok (.string s54) x0) ∧
  ((s7.size + s54.size : Nat) : Int) ≤ 9223372036854775807 ∧
  K [.string (s7 ++ s54), .int .i64 (IntKind.i64.wrap (n8 + 1))] w6) ∧
  ((decide (n8 < (l32 : Int))) = false →
  Calls Tryz.prog 75 #[.string s7, .int .i64 64] w5 fun e_1 w7 => ∃ s58_0 : ByteArray, ∃ b58_1 : Bool, e_1 = .returned (.tuple #[.string s58_0, .bool b58_1]) ∧
  R (.string s58_0) w7)
theorem revetmentref12_head_eq (n0_0 : Int) (n0_1 : Int) (p0_2 : Option Addr) (l0_2 c0_2 : Nat) (n1 : Int) (w : World) (R : Value → World → Prop) : revetmentref12_head n0_0 n0_1 p0_2 l0_2 c0_2 n1 w R = fnP Tryz.prog Tryz.f94 (.s .o (.s .o (.s .o (.s (.s .o (.b (.l [(7, .one .str), (8, .one (.int .i64))] .o))) .o)))) [.agg #[.int .u64 n0_0, .int .i64 n0_1, .slice p0_2 l0_2 c0_2], .int .u32 n1] w R := by kernel_rfl
theorem revetmentref12_head_calls {n0_0 : Int} {n0_1 : Int} {p0_2 : Option Addr} {l0_2 c0_2 : Nat} {n1 : Int} {w : World} {R : Value → World → Prop} (h : revetmentref12_head n0_0 n0_1 p0_2 l0_2 c0_2 n1 w R) : Calls Tryz.prog 94 #[.agg #[.int .u64 n0_0, .int .i64 n0_1, .slice p0_2 l0_2 c0_2], .int .u32 n1] w fun e w1 => ∃ v, e = .returned v ∧ R v w1 := fnP_calls callable Tryz.func94 (revetmentref12_head_eq n0_0 n0_1 p0_2 l0_2 c0_2 n1 w R ▸ h)

/-- revetment/revetmentref03.Fits -/
def revetmentref03_Fits (n0 : Int) (n1 : Int) (w : World) (R : Value → World → Prop) : Prop :=
  ((decide (n1 < 1)) = true →
  R (.bool false) w) ∧
  ((decide (n1 < 1)) = false →
  ((decide (n1 > 8)) = true →
  R (.bool false) w) ∧
  ((decide (n1 > 8)) = false →
  LoopP (fun I => I [.int .u64 n0, .int .i64 0] w) fun K vs w1 => ∃ n0_1 : Int, ∃ n5 : Int, vs = [.int .u64 n0_1, .int .i64 n5] ∧
  ((decide (n5 < n1)) = true →
  K [.int .u64 (Int.fdiv n0_1 (2 ^ 8)), .int .i64 (IntKind.i64.wrap (n5 + 1))] w1) ∧
  ((decide (n5 < n1)) = false →
  R (.bool (n0_1 == 0)) w1)))
theorem revetmentref03_Fits_eq (n0 : Int) (n1 : Int) (w : World) (R : Value → World → Prop) : revetmentref03_Fits n0 n1 w R = fnP Tryz.prog Tryz.f101 (.s .o (.s .o (.s (.s .o (.b (.l [(0, .one (.int .u64)), (5, .one (.int .i64))] .o))) .o))) [.int .u64 n0, .int .i64 n1] w R := by kernel_rfl
theorem revetmentref03_Fits_calls {n0 : Int} {n1 : Int} {w : World} {R : Value → World → Prop} (h : revetmentref03_Fits n0 n1 w R) : Calls Tryz.prog 101 #[.int .u64 n0, .int .i64 n1] w fun e w1 => ∃ v, e = .returned v ∧ R v w1 := fnP_calls callable Tryz.func101 (revetmentref03_Fits_eq n0 n1 w R ▸ h)

/-- revetment/revetmentref02.More -/
def revetmentref02_More (n0 : Int) (s1 : ByteArray) (w : World) (R : Value → World → Prop) : Prop :=
  LoopP (fun I => I [.int .u32 (bits2 .xor .u32 IntKind.u32.max n0), .int .i64 0] w) fun K vs w1 => ∃ n5 : Int, ∃ n6 : Int, vs = [.int .u32 n5, .int .i64 n6] ∧
  ((decide (n6 < (s1.size : Int))) = true →
  ∃ n20 : Int, ∃ w2, (Instr.index 9 (.string s1) (.int .i64 n6)).run Tryz.prog w1 = .ok (.int .u8 n20) w2 ∧
  LoopP (fun I_1 => I_1 [.int .u32 (bits2 .xor .u32 n5 (IntKind.u32.wrap n20)), .int .i64 0] w2) fun K_1 vs_1 w3 => ∃ n5_1 : Int, ∃ n7 : Int, vs_1 = [.int .u32 n5_1, .int .i64 n7] ∧
  ((decide (n7 < 8)) = true →
  (((bits2 .and .u32 n5_1 1) == 1) = true →
  K_1 [.int .u32 (bits2 .xor .u32 (Int.fdiv n5_1 (2 ^ 1)) 2197175160), .int .i64 (IntKind.i64.wrap (n7 + 1))] w3) ∧
  (((bits2 .and .u32 n5_1 1) == 1) = false →
  K_1 [.int .u32 (Int.fdiv n5_1 (2 ^ 1)), .int .i64 (IntKind.i64.wrap (n7 + 1))] w3)) ∧
  ((decide (n7 < 8)) = false →
  K [.int .u32 n5_1, .int .i64 (IntKind.i64.wrap (n6 + 1))] w3)) ∧
  ((decide (n6 < (s1.size : Int))) = false →
  R (.int .u32 (bits2 .xor .u32 IntKind.u32.max n5)) w1)
theorem revetmentref02_More_eq (n0 : Int) (s1 : ByteArray) (w : World) (R : Value → World → Prop) : revetmentref02_More n0 s1 w R = fnP Tryz.prog Tryz.f106 (.s .o (.s .o (.s (.s .o (.b (.l [(5, .one (.int .u32)), (6, .one (.int .i64))] (.s .o (.s (.b (.s .o (.s .o (.b (.l [(5, .one (.int .u32)), (7, .one (.int .i64))] .o))))) .o))))) .o))) [.int .u32 n0, .string s1] w R := by kernel_rfl
theorem revetmentref02_More_calls {n0 : Int} {s1 : ByteArray} {w : World} {R : Value → World → Prop} (h : revetmentref02_More n0 s1 w R) : Calls Tryz.prog 106 #[.int .u32 n0, .string s1] w fun e w1 => ∃ v, e = .returned v ∧ R v w1 := fnP_calls callable Tryz.func106 (revetmentref02_More_eq n0 s1 w R ▸ h)

/-- revetment/revetmentref12.places -/
def revetmentref12_places (n0_0 : Int) (n0_1 : Int) (p0_2 : Option Addr) (l0_2 c0_2 : Nat) (w : World) (R : Value → World → Prop) : Prop :=
  Alloc #[.int .u64 n0_0, .int .i64 n0_1, .slice p0_2 l0_2 c0_2] 99 w fun k1 w1 =>
  ∃ n7 : Int, w1.cell? ⟨k1, 1, none⟩ = some (.int .i64 n7) ∧
  ((decide (n7 < 0)) = true →
  R (.bool false) w1) ∧
  ((decide (n7 < 0)) = false →
  ∃ n11 : Int, w1.cell? ⟨k1, 1, none⟩ = some (.int .i64 n11) ∧
  ((decide (n11 ≥ 256)) = true →
  R (.bool false) w1) ∧
  ((decide (n11 ≥ 256)) = false →
  ∃ (p16 : Option Addr) (l16 c16 : Nat), w1.cell? ⟨k1, 2, none⟩ = some (.slice p16 l16 c16) ∧
  ((decide ((l16 : Int) < 1)) = true →
  R (.bool false) w1) ∧
  ((decide ((l16 : Int) < 1)) = false →
  ∃ (p22 : Option Addr) (l22 c22 : Nat), w1.cell? ⟨k1, 2, none⟩ = some (.slice p22 l22 c22) ∧
  ((decide ((l22 : Int) > 40)) = true →
  R (.bool false) w1) ∧
  ((decide ((l22 : Int) > 40)) = false →
  LoopP (fun I => I [.int .i64 0] w1) fun K vs w2 => ∃ n3 : Int, vs = [.int .i64 n3] ∧
  ∃ (p28 : Option Addr) (l28 c28 : Nat), w2.cell? ⟨k1, 2, none⟩ = some (.slice p28 l28 c28) ∧
  ((decide (n3 < (l28 : Int))) = true →
  ∃ (p34 : Option Addr) (l34 c34 : Nat), w2.cell? ⟨k1, 2, none⟩ = some (.slice p34 l34 c34) ∧
  ∃ a36 : Addr, p34 = some a36 ∧ (0 : Int) ≤ n3 ∧ n3 < (l34 : Int) ∧
  ∃ n37_0 : Int, ∃ n37_1 : Int, ∃ s37_2 : ByteArray, (w2.cell? (Addr.add a36 (n3.toNat * 3)) = some (.int .i64 n37_0) ∧ w2.cell? (Addr.add (Addr.add a36 (n3.toNat * 3)) 1) = some (.int .i64 n37_1) ∧ w2.cell? (Addr.add (Addr.add a36 (n3.toNat * 3)) 2) = some (.string s37_2)) ∧
  Alloc #[.int .i64 0, .int .i64 0, .string (ByteArray.mk #[])] 115 w2 fun k4 w3 =>
  St ⟨k4, 0, none⟩ (.int .i64 n37_0) w3 fun w4 =>
  St ⟨k4, 1, none⟩ (.int .i64 n37_1) w4 fun w5 =>
  St ⟨k4, 2, none⟩ (.string s37_2) w5 fun w6 =>
  ∃ n39 : Int, w6.cell? ⟨k4, 0, none⟩ = some (.int .i64 n39) ∧
  ((decide (n39 < 0)) = true →
  R (.bool false) w6) ∧
  ((decide (n39 < 0)) = false →
  ∃ n43 : Int, w6.cell? ⟨k4, 0, none⟩ = some (.int .i64 n43) ∧
  ((decide (n43 ≥ 10)) = true →
  R (.bool false) w6) ∧
  ((decide (n43 ≥ 10)) = false →
  ∃ n48 : Int, w6.cell? ⟨k4, 1, none⟩ = some (.int .i64 n48) ∧
  ((decide (n48 < 0)) = true →
  R (.bool false) w6) ∧
  ((decide (n48 < 0)) = false →
  ∃ n53 : Int, w6.cell? ⟨k4, 1, none⟩ = some (.int .i64 n53) ∧
  ((decide (n53 ≥ 4)) = true →
  R (.bool false) w6) ∧
  ((decide (n53 ≥ 4)) = false →
  LoopP (fun I_1 => I_1 [.int .i64 0] w6) fun K_1 vs_1 w7 => ∃ n5 : Int, vs_1 = [.int .i64 n5] ∧
  ((decide (n5 < n3)) = true →
  ∃ D : World → Prop, D w7.drew ∧
  ∃ (p62 : Option Addr) (l62 c62 : Nat), (∀ w, D w → w.cell? ⟨k1, 2, none⟩ = some (.slice p62 l62 c62)) ∧
  ∃ a64 : Addr, p62 = some a64 ∧ (0 : Int) ≤ n5 ∧ n5 < (l62 : Int) ∧
  ∃ n66 : Int, (∀ w, D w → w.cell? (Addr.add a64 (n5.toNat * 3)) = some (.int .i64 n66)) ∧
  ∃ n68 : Int, (∀ w, D w → w.cell? ⟨k4, 0, none⟩ = some (.int .i64 n68)) ∧
  ((n66 == n68) = true →
  ∃ (p72 : Option Addr) (l72 c72 : Nat), (∀ w, D w → w.cell? ⟨k1, 2, none⟩ = some (.slice p72 l72 c72)) ∧
  ∃ a74 : Addr, p72 = some a74 ∧ (0 : Int) ≤ n5 ∧ n5 < (l72 : Int) ∧
  ∃ n76 : Int, (∀ w, D w → w.cell? (Addr.add (Addr.add a74 (n5.toNat * 3)) 1) = some (.int .i64 n76)) ∧
  ∃ n78 : Int, (∀ w, D w → w.cell? ⟨k4, 1, none⟩ = some (.int .i64 n78)) ∧
  ((n76 == n78) = true →
  R (.bool false) w7.drew) ∧
  ((n76 == n78) = false →
  K_1 [.int .i64 (IntKind.i64.wrap (n5 + 1))] w7.drew)) ∧
  ((n66 == n68) = false →
  K_1 [.int .i64 (IntKind.i64.wrap (n5 + 1))] w7.drew)) ∧
  ((decide (n5 < n3)) = false →
  K [.int .i64 (IntKind.i64.wrap (n3 + 1))] w7)))))) ∧
  ((decide (n3 < (l28 : Int))) = false →
  R (.bool true) w2)))))
theorem revetmentref12_places_eq (n0_0 : Int) (n0_1 : Int) (p0_2 : Option Addr) (l0_2 c0_2 : Nat) (w : World) (R : Value → World → Prop) : revetmentref12_places n0_0 n0_1 p0_2 l0_2 c0_2 w R = fnP Tryz.prog Tryz.f107 (.s .o (.s .o (.s (.s .o (.b (.l [(3, .one (.int .i64))] (.s .o (.s (.b (.s .o (.s .o (.s .o (.b (.l [(5, .one (.int .i64))] .o)))))) .o))))) .o))) [.agg #[.int .u64 n0_0, .int .i64 n0_1, .slice p0_2 l0_2 c0_2]] w R := by kernel_rfl
theorem revetmentref12_places_calls {n0_0 : Int} {n0_1 : Int} {p0_2 : Option Addr} {l0_2 c0_2 : Nat} {w : World} {R : Value → World → Prop} (h : revetmentref12_places n0_0 n0_1 p0_2 l0_2 c0_2 w R) : Calls Tryz.prog 107 #[.agg #[.int .u64 n0_0, .int .i64 n0_1, .slice p0_2 l0_2 c0_2]] w fun e w1 => ∃ v, e = .returned v ∧ R v w1 := fnP_calls callable Tryz.func107 (revetmentref12_places_eq n0_0 n0_1 p0_2 l0_2 c0_2 w R ▸ h)

end Go.Proofs.YtbecjmfcppginaaGreat
