import Derived.Test.YtedbbdeeofdepaaGreatN2
import Derived.Test.YtedbbdeeofdepaaGreatN12
/-! The formulas of Go functions, printed by a program of this session (shprint.py), each tied to the loaded function by the kernel. -/
namespace Go.Proofs.YtedbbdeeofdepaaGreat
open Go.Sh
set_option linter.unusedVariables false
set_option maxRecDepth 100000
/-- revetment/revetmentref16.Read -/
def revetmentref16_Read (n0_0 : Int) (n0_1 : Int) (n0_2 : Int) (p0_3 : Option Addr) (l0_3 c0_3 : Nat) (p0_4 : Option Addr) (l0_4 c0_4 : Nat) (n1 : Int) (n2 : Int) (w : World) (R : Value → World → Prop) : Prop :=
  Alloc #[.int .i64 n0_0, .int .i64 n0_1, .int .i64 n0_2, .slice p0_3 l0_3 c0_3, .slice p0_4 l0_4 c0_4] 33 w fun k3 w1 =>
  ∃ n16_0 : Int, ∃ n16_1 : Int, ∃ n16_2 : Int, ∃ (p16_3 : Option Addr) (l16_3 c16_3 : Nat), ∃ (p16_4 : Option Addr) (l16_4 c16_4 : Nat), (w1.cell? ⟨k3, 0, none⟩ = some (.int .i64 n16_0) ∧ w1.cell? ⟨k3, 1, none⟩ = some (.int .i64 n16_1) ∧ w1.cell? ⟨k3, 2, none⟩ = some (.int .i64 n16_2) ∧ w1.cell? ⟨k3, 3, none⟩ = some (.slice p16_3 l16_3 c16_3) ∧ w1.cell? ⟨k3, 4, none⟩ = some (.slice p16_4 l16_4 c16_4)) ∧
  Calls Tryz.prog 61 #[.agg #[.int .i64 n16_0, .int .i64 n16_1, .int .i64 n16_2, .slice p16_3 l16_3 c16_3, .slice p16_4 l16_4 c16_4], .int .i64 n1, .int .i64 n2] w1 fun e w2 => ∃ n19 : Int, e = .returned (.int .i64 n19) ∧
  ((n19 != 0) = true →
  R (.tuple #[.slice none 0 0, .slice none 0 0, .int .i64 n19]) w2) ∧
  ((n19 != 0) = false →
  Alloc #[] 9 w2 fun k23 w3 =>
  Alloc #[] 3 w3 fun k24 w4 =>
  LoopP (fun I => I [.slice (some ⟨k23, 0, none⟩) 0 0, .slice (some ⟨k24, 0, none⟩) 0 0, .int .i64 0] w4) fun K vs w5 => ∃ (p10 : Option Addr) (l10 c10 : Nat), ∃ (p11 : Option Addr) (l11 c11 : Nat), ∃ n12 : Int, vs = [.slice p10 l10 c10, .slice p11 l11 c11, .int .i64 n12] ∧
  ∃ n28 : Int, w5.cell? ⟨k3, 0, none⟩ = some (.int .i64 n28) ∧
  ((decide (n12 < n28)) = true →
  ∃ n32_0 : Int, ∃ n32_1 : Int, ∃ n32_2 : Int, ∃ (p32_3 : Option Addr) (l32_3 c32_3 : Nat), ∃ (p32_4 : Option Addr) (l32_4 c32_4 : Nat), (w5.cell? ⟨k3, 0, none⟩ = some (.int .i64 n32_0) ∧ w5.cell? ⟨k3, 1, none⟩ = some (.int .i64 n32_1) ∧ w5.cell? ⟨k3, 2, none⟩ = some (.int .i64 n32_2) ∧ w5.cell? ⟨k3, 3, none⟩ = some (.slice p32_3 l32_3 c32_3) ∧ w5.cell? ⟨k3, 4, none⟩ = some (.slice p32_4 l32_4 c32_4)) ∧
  Calls Tryz.prog 62 #[.agg #[.int .i64 n32_0, .int .i64 n32_1, .int .i64 n32_2, .slice p32_3 l32_3 c32_3, .slice p32_4 l32_4 c32_4], .int .i64 n1, .int .i64 n12] w5 fun e_1 w6 => ∃ n35 : Int, e_1 = .returned (.int .i64 n35) ∧
  Join (fun vs_1 w7 => ∃ s14 : ByteArray, ∃ n15 : Int, vs_1 = [.string s14, .int .i64 n15] ∧
  ((n15 == 42) = true →
  R (.tuple #[.slice none 0 0, .slice none 0 0, .int .i64 42]) w7) ∧
  ((n15 == 42) = false →
  Join (fun vs_2 w8 => ∃ (p11_1 : Option Addr) (l11_1 c11_1 : Nat), vs_2 = [.slice p11_1 l11_1 c11_1] ∧
  Alloc #[.string s14] 9 w8 fun k65 w9 =>
  ∃ (p66 : Option Addr) (l66 c66 : Nat), ∃ w10, (builtin .append #[22, 22] 22 #[false, false] #[.slice p10 l10 c10, .slice (some ⟨k65, 0, none⟩) 1 1]).run Tryz.prog w9 = .ok (.value (.slice p66 l66 c66)) w10 ∧
  K [.slice p66 l66 c66, .slice p11_1 l11_1 c11_1, .int .i64 (IntKind.i64.wrap (n12 + 1))] w10) fun J_1 =>
  ((n15 != 0) = true →
  Alloc #[.int .i64 n12] 3 w7 fun k61 w11 =>
  ∃ (p62 : Option Addr) (l62 c62 : Nat), ∃ w12, (builtin .append #[28, 28] 28 #[false, false] #[.slice p11 l11 c11, .slice (some ⟨k61, 0, none⟩) 1 1]).run Tryz.prog w11 = .ok (.value (.slice p62 l62 c62)) w12 ∧
  J_1 [.slice p62 l62 c62] w12) ∧
  ((n15 != 0) = false →
  J_1 [.slice p11 l11 c11] w7))) fun J =>
  ∃ n36_0 : Int, ∃ n36_1 : Int, ∃ n36_2 : Int, ∃ (p36_3 : Option Addr) (l36_3 c36_3 : Nat), ∃ (p36_4 : Option Addr) (l36_4 c36_4 : Nat), (w6.cell? ⟨k3, 0, none⟩ = some (.int .i64 n36_0) ∧ w6.cell? ⟨k3, 1, none⟩ = some (.int .i64 n36_1) ∧ w6.cell? ⟨k3, 2, none⟩ = some (.int .i64 n36_2) ∧ w6.cell? ⟨k3, 3, none⟩ = some (.slice p36_3 l36_3 c36_3) ∧ w6.cell? ⟨k3, 4, none⟩ = some (.slice p36_4 l36_4 c36_4)) ∧
  Calls Tryz.prog 63 #[.agg #[.int .i64 n36_0, .int .i64 n36_1, .int .i64 n36_2, .slice p36_3 l36_3 c36_3, .slice p36_4 l36_4 c36_4], .int .i64 n1, .int .i64 n35] w6 fun e_2 w13 => ∃ b39 : Bool, e_2 = .returned (.bool b39) ∧
  ((!b39) = true →
  ∃ D : World → Prop, D w13.drew ∧
  ∃ (p43 : Option Addr) (l43 c43 : Nat), (∀ w, D w → w.cell? ⟨k3, 3, none⟩ = some (.slice p43 l43 c43)) ∧
  ∃ a45 : Addr, p43 = some a45 ∧ (0 : Int) ≤ n35 ∧ n35 < (l43 : Int) ∧
  ∃ p46 : Option Addr, (∀ w, D w → w.cell? (Addr.add a45 (n35.toNat * 1)) = some (.pointer p46)) ∧
  ∃ n48_0 : Int, ∃ n48_1 : Int, ∃ n48_2 : Int, (∀ w, D w → w.cell? ⟨k3, 0, none⟩ = some (.int .i64 n48_0) ∧ w.cell? ⟨k3, 1, none⟩ = some (.int .i64 n48_1) ∧ w.cell? ⟨k3, 2, none⟩ = some (.int .i64 n48_2)) ∧
  Calls Tryz.prog 65 #[.agg #[.int .i64 n48_0, .int .i64 n48_1, .int .i64 n48_2], .int .i64 n1, .int .i64 n2] w13.drew fun e_3 w14 => ∃ n51 : Int, e_3 = .returned (.int .i64 n51) ∧
  D w14 ∧
  Calls Tryz.prog 64 #[.pointer p46, .int .i64 n51] w14 fun e_4 w15 => ∃ s52_0 : ByteArray, ∃ n52_1 : Int, e_4 = .returned (.tuple #[.string s52_0, .int .i64 n52_1]) ∧
  D w15 ∧
  J [.string s52_0, .int .i64 n52_1] w15) ∧
  ((!b39) = false →
  J [.string (ByteArray.mk #[]), .int .i64 41] w13)) ∧
  ((decide (n12 < n28)) = false →
  R (.tuple #[.slice p10 l10 c10, .slice p11 l11 c11, .int .i64 0]) w5))
theorem revetmentref16_Read_eq (n0_0 : Int) (n0_1 : Int) (n0_2 : Int) (p0_3 : Option Addr) (l0_3 c0_3 : Nat) (p0_4 : Option Addr) (l0_4 c0_4 : Nat) (n1 : Int) (n2 : Int) (w : World) (R : Value → World → Prop) : revetmentref16_Read n0_0 n0_1 n0_2 p0_3 l0_3 c0_3 p0_4 l0_4 c0_4 n1 n2 w R = fnP Tryz.prog Tryz.f25 (.s .o (.s .o (.s .o (.s .o (.s .o (.s (.s .o (.b (.l [(10, .one .slice), (11, .one .slice), (12, .one (.int .i64))] (.s .o (.s (.b (.s .o (.s .o (.s .o (.j [(14, .one .str), (15, .one (.int .i64))] .o (.s .o (.j [(11, .one .slice)] .o .o))))))) .o))))) .o)))))) [.agg #[.int .i64 n0_0, .int .i64 n0_1, .int .i64 n0_2, .slice p0_3 l0_3 c0_3, .slice p0_4 l0_4 c0_4], .int .i64 n1, .int .i64 n2] w R := by kernel_rfl
theorem revetmentref16_Read_calls {n0_0 : Int} {n0_1 : Int} {n0_2 : Int} {p0_3 : Option Addr} {l0_3 c0_3 : Nat} {p0_4 : Option Addr} {l0_4 c0_4 : Nat} {n1 : Int} {n2 : Int} {w : World} {R : Value → World → Prop} (h : revetmentref16_Read n0_0 n0_1 n0_2 p0_3 l0_3 c0_3 p0_4 l0_4 c0_4 n1 n2 w R) : Calls Tryz.prog 25 #[.agg #[.int .i64 n0_0, .int .i64 n0_1, .int .i64 n0_2, .slice p0_3 l0_3 c0_3, .slice p0_4 l0_4 c0_4], .int .i64 n1, .int .i64 n2] w fun e w1 => ∃ v, e = .returned v ∧ R v w1 := fnP_calls callable Tryz.func25 (revetmentref16_Read_eq n0_0 n0_1 n0_2 p0_3 l0_3 c0_3 p0_4 l0_4 c0_4 n1 n2 w R ▸ h)

/-- revetment/revetmentref16.Filled -/
def revetmentref16_Filled (n0_0 : Int) (n0_1 : Int) (n0_2 : Int) (p0_3 : Option Addr) (l0_3 c0_3 : Nat) (p0_4 : Option Addr) (l0_4 c0_4 : Nat) (n1 : Int) (n2 : Int) (w : World) (R : Value → World → Prop) : Prop :=
  Alloc #[.int .i64 n0_0, .int .i64 n0_1, .int .i64 n0_2, .slice p0_3 l0_3 c0_3, .slice p0_4 l0_4 c0_4] 33 w fun k3 w1 =>
  ∃ n15_0 : Int, ∃ n15_1 : Int, ∃ n15_2 : Int, ∃ (p15_3 : Option Addr) (l15_3 c15_3 : Nat), ∃ (p15_4 : Option Addr) (l15_4 c15_4 : Nat), (w1.cell? ⟨k3, 0, none⟩ = some (.int .i64 n15_0) ∧ w1.cell? ⟨k3, 1, none⟩ = some (.int .i64 n15_1) ∧ w1.cell? ⟨k3, 2, none⟩ = some (.int .i64 n15_2) ∧ w1.cell? ⟨k3, 3, none⟩ = some (.slice p15_3 l15_3 c15_3) ∧ w1.cell? ⟨k3, 4, none⟩ = some (.slice p15_4 l15_4 c15_4)) ∧
  Calls Tryz.prog 25 #[.agg #[.int .i64 n15_0, .int .i64 n15_1, .int .i64 n15_2, .slice p15_3 l15_3 c15_3, .slice p15_4 l15_4 c15_4], .int .i64 n1, .int .i64 n2] w1 fun e w2 => ∃ (p18_0 : Option Addr) (l18_0 c18_0 : Nat), ∃ (p18_1 : Option Addr) (l18_1 c18_1 : Nat), ∃ n18_2 : Int, e = .returned (.tuple #[.slice p18_0 l18_0 c18_0, .slice p18_1 l18_1 c18_1, .int .i64 n18_2]) ∧
  ((n18_2 != 0) = true →
  R (.tuple #[.slice none 0 0, .slice none 0 0, .int .i64 n18_2]) w2) ∧
  ((n18_2 != 0) = false →
  Calls Tryz.prog 66 #[.slice p18_0 l18_0 c18_0, .slice p18_1 l18_1 c18_1] w2 fun e_1 w3 => ∃ (p28_0 : Option Addr) (l28_0 c28_0 : Nat), ∃ n28_1 : Int, e_1 = .returned (.tuple #[.slice p28_0 l28_0 c28_0, .int .i64 n28_1]) ∧
  ((n28_1 != 0) = true →
  R (.tuple #[.slice none 0 0, .slice none 0 0, .int .i64 n28_1]) w3) ∧
  ((n28_1 != 0) = false →
  R (.tuple #[.slice p28_0 l28_0 c28_0, .slice p18_1 l18_1 c18_1, .int .i64 0]) w3))
theorem revetmentref16_Filled_eq (n0_0 : Int) (n0_1 : Int) (n0_2 : Int) (p0_3 : Option Addr) (l0_3 c0_3 : Nat) (p0_4 : Option Addr) (l0_4 c0_4 : Nat) (n1 : Int) (n2 : Int) (w : World) (R : Value → World → Prop) : revetmentref16_Filled n0_0 n0_1 n0_2 p0_3 l0_3 c0_3 p0_4 l0_4 c0_4 n1 n2 w R = fnP Tryz.prog Tryz.f26 .o [.agg #[.int .i64 n0_0, .int .i64 n0_1, .int .i64 n0_2, .slice p0_3 l0_3 c0_3, .slice p0_4 l0_4 c0_4], .int .i64 n1, .int .i64 n2] w R := by kernel_rfl
theorem revetmentref16_Filled_calls {n0_0 : Int} {n0_1 : Int} {n0_2 : Int} {p0_3 : Option Addr} {l0_3 c0_3 : Nat} {p0_4 : Option Addr} {l0_4 c0_4 : Nat} {n1 : Int} {n2 : Int} {w : World} {R : Value → World → Prop} (h : revetmentref16_Filled n0_0 n0_1 n0_2 p0_3 l0_3 c0_3 p0_4 l0_4 c0_4 n1 n2 w R) : Calls Tryz.prog 26 #[.agg #[.int .i64 n0_0, .int .i64 n0_1, .int .i64 n0_2, .slice p0_3 l0_3 c0_3, .slice p0_4 l0_4 c0_4], .int .i64 n1, .int .i64 n2] w fun e w1 => ∃ v, e = .returned v ∧ R v w1 := fnP_calls callable Tryz.func26 (revetmentref16_Filled_eq n0_0 n0_1 n0_2 p0_3 l0_3 c0_3 p0_4 l0_4 c0_4 n1 n2 w R ▸ h)

/-- revetment/revetmentref16.Sector -/
def revetmentref16_Sector (n0_0 : Int) (n0_1 : Int) (n0_2 : Int) (p0_3 : Option Addr) (l0_3 c0_3 : Nat) (p0_4 : Option Addr) (l0_4 c0_4 : Nat) (n1 : Int) (n2 : Int) (n3 : Int) (w : World) (R : Value → World → Prop) : Prop :=
  Alloc #[.int .i64 n0_0, .int .i64 n0_1, .int .i64 n0_2, .slice p0_3 l0_3 c0_3, .slice p0_4 l0_4 c0_4] 33 w fun k4 w1 =>
  ∃ n17_0 : Int, ∃ n17_1 : Int, ∃ n17_2 : Int, ∃ (p17_3 : Option Addr) (l17_3 c17_3 : Nat), ∃ (p17_4 : Option Addr) (l17_4 c17_4 : Nat), (w1.cell? ⟨k4, 0, none⟩ = some (.int .i64 n17_0) ∧ w1.cell? ⟨k4, 1, none⟩ = some (.int .i64 n17_1) ∧ w1.cell? ⟨k4, 2, none⟩ = some (.int .i64 n17_2) ∧ w1.cell? ⟨k4, 3, none⟩ = some (.slice p17_3 l17_3 c17_3) ∧ w1.cell? ⟨k4, 4, none⟩ = some (.slice p17_4 l17_4 c17_4)) ∧
  Calls Tryz.prog 61 #[.agg #[.int .i64 n17_0, .int .i64 n17_1, .int .i64 n17_2, .slice p17_3 l17_3 c17_3, .slice p17_4 l17_4 c17_4], .int .i64 n1, .int .i64 n2] w1 fun e w2 => ∃ n20 : Int, e = .returned (.int .i64 n20) ∧
  ((n20 != 0) = true →
  R (.tuple #[.string (ByteArray.mk #[]), .int .i64 n20]) w2) ∧
  ((n20 != 0) = false →
  ((decide (n3 < 0)) = true →
  R (.tuple #[.string (ByteArray.mk #[]), .int .i64 70]) w2) ∧
  ((decide (n3 < 0)) = false →
  ∃ n30 : Int, w2.cell? ⟨k4, 0, none⟩ = some (.int .i64 n30) ∧
  ((decide (n3 ≥ (IntKind.i64.wrap (n30 - 2)))) = true →
  R (.tuple #[.string (ByteArray.mk #[]), .int .i64 70]) w2) ∧
  ((decide (n3 ≥ (IntKind.i64.wrap (n30 - 2)))) = false →
  ∃ n35_0 : Int, ∃ n35_1 : Int, ∃ n35_2 : Int, (w2.cell? ⟨k4, 0, none⟩ = some (.int .i64 n35_0) ∧ w2.cell? ⟨k4, 1, none⟩ = some (.int .i64 n35_1) ∧ w2.cell? ⟨k4, 2, none⟩ = some (.int .i64 n35_2)) ∧
  Calls Tryz.prog 67 #[.agg #[.int .i64 n35_0, .int .i64 n35_1, .int .i64 n35_2], .int .i64 n1, .int .i64 n3] w2 fun e_1 w3 => ∃ n38 : Int, e_1 = .returned (.int .i64 n38) ∧
  Join (fun vs w4 => vs = [] ∧
  ∃ n63_0 : Int, ∃ n63_1 : Int, ∃ n63_2 : Int, ∃ (p63_3 : Option Addr) (l63_3 c63_3 : Nat), ∃ (p63_4 : Option Addr) (l63_4 c63_4 : Nat), (w4.cell? ⟨k4, 0, none⟩ = some (.int .i64 n63_0) ∧ w4.cell? ⟨k4, 1, none⟩ = some (.int .i64 n63_1) ∧ w4.cell? ⟨k4, 2, none⟩ = some (.int .i64 n63_2) ∧ w4.cell? ⟨k4, 3, none⟩ = some (.slice p63_3 l63_3 c63_3) ∧ w4.cell? ⟨k4, 4, none⟩ = some (.slice p63_4 l63_4 c63_4)) ∧
  Calls Tryz.prog 26 #[.agg #[.int .i64 n63_0, .int .i64 n63_1, .int .i64 n63_2, .slice p63_3 l63_3 c63_3, .slice p63_4 l63_4 c63_4], .int .i64 n1, .int .i64 n2] w4 fun e_2 w5 => ∃ (p66_0 : Option Addr) (l66_0 c66_0 : Nat), ∃ (p66_1 : Option Addr) (l66_1 c66_1 : Nat), ∃ n66_2 : Int, e_2 = .returned (.tuple #[.slice p66_0 l66_0 c66_0, .slice p66_1 l66_1 c66_1, .int .i64 n66_2]) ∧
  ((n66_2 != 0) = true →
  R (.tuple #[.string (ByteArray.mk #[]), .int .i64 n66_2]) w5) ∧
  ((n66_2 != 0) = false →
  ∃ a75 : Addr, p66_0 = some a75 ∧ (0 : Int) ≤ n3 ∧ n3 < (l66_0 : Int) ∧
  ∃ s76 : ByteArray, w5.cell? (Addr.add a75 (n3.toNat * 1)) = some (.string s76) ∧
  R (.tuple #[.string s76, .int .i64 0]) w5)) fun J =>
  ∃ n39_0 : Int, ∃ n39_1 : Int, ∃ n39_2 : Int, ∃ (p39_3 : Option Addr) (l39_3 c39_3 : Nat), ∃ (p39_4 : Option Addr) (l39_4 c39_4 : Nat), (w3.cell? ⟨k4, 0, none⟩ = some (.int .i64 n39_0) ∧ w3.cell? ⟨k4, 1, none⟩ = some (.int .i64 n39_1) ∧ w3.cell? ⟨k4, 2, none⟩ = some (.int .i64 n39_2) ∧ w3.cell? ⟨k4, 3, none⟩ = some (.slice p39_3 l39_3 c39_3) ∧ w3.cell? ⟨k4, 4, none⟩ = some (.slice p39_4 l39_4 c39_4)) ∧
  Calls Tryz.prog 63 #[.agg #[.int .i64 n39_0, .int .i64 n39_1, .int .i64 n39_2, .slice p39_3 l39_3 c39_3, .slice p39_4 l39_4 c39_4], .int .i64 n1, .int .i64 n38] w3 fun e_3 w6 => ∃ b42 : Bool, e_3 = .returned (.bool b42) ∧
  ((!b42) = true →
  ∃ D : World → Prop, D w6.drew ∧
  ∃ (p46 : Option Addr) (l46 c46 : Nat), (∀ w, D w → w.cell? ⟨k4, 3, none⟩ = some (.slice p46 l46 c46)) ∧
  ∃ a48 : Addr, p46 = some a48 ∧ (0 : Int) ≤ n38 ∧ n38 < (l46 : Int) ∧
  ∃ p49 : Option Addr, (∀ w, D w → w.cell? (Addr.add a48 (n38.toNat * 1)) = some (.pointer p49)) ∧
  ∃ n51_0 : Int, ∃ n51_1 : Int, ∃ n51_2 : Int, (∀ w, D w → w.cell? ⟨k4, 0, none⟩ = some (.int .i64 n51_0) ∧ w.cell? ⟨k4, 1, none⟩ = some (.int .i64 n51_1) ∧ w.cell? ⟨k4, 2, none⟩ = some (.int .i64 n51_2)) ∧
  Calls Tryz.prog 65 #[.agg #[.int .i64 n51_0, .int .i64 n51_1, .int .i64 n51_2], .int .i64 n1, .int .i64 n2] w6.drew fun e_4 w7 => ∃ n54 : Int, e_4 = .returned (.int .i64 n54) ∧
  D w7 ∧
  Calls Tryz.prog 64 #[.pointer p49, .int .i64 n54] w7 fun e_5 w8 => ∃ s55_0 : ByteArray, ∃ n55_1 : Int, e_5 = .returned (.tuple #[.string s55_0, .int .i64 n55_1]) ∧
  D w8 ∧
  ((n55_1 != 41) = true →
  R (.tuple #[.string s55_0, .int .i64 n55_1]) w8) ∧
  ((n55_1 != 41) = false →
  J [] w8)) ∧
  ((!b42) = false →
  J [] w6))))
theorem revetmentref16_Sector_eq (n0_0 : Int) (n0_1 : Int) (n0_2 : Int) (p0_3 : Option Addr) (l0_3 c0_3 : Nat) (p0_4 : Option Addr) (l0_4 c0_4 : Nat) (n1 : Int) (n2 : Int) (n3 : Int) (w : World) (R : Value → World → Prop) : revetmentref16_Sector n0_0 n0_1 n0_2 p0_3 l0_3 c0_3 p0_4 l0_4 c0_4 n1 n2 n3 w R = fnP Tryz.prog Tryz.f27 (.s .o (.s .o (.s .o (.s .o (.s .o (.j [] .o .o)))))) [.agg #[.int .i64 n0_0, .int .i64 n0_1, .int .i64 n0_2, .slice p0_3 l0_3 c0_3, .slice p0_4 l0_4 c0_4], .int .i64 n1, .int .i64 n2, .int .i64 n3] w R := by kernel_rfl
theorem revetmentref16_Sector_calls {n0_0 : Int} {n0_1 : Int} {n0_2 : Int} {p0_3 : Option Addr} {l0_3 c0_3 : Nat} {p0_4 : Option Addr} {l0_4 c0_4 : Nat} {n1 : Int} {n2 : Int} {n3 : Int} {w : World} {R : Value → World → Prop} (h : revetmentref16_Sector n0_0 n0_1 n0_2 p0_3 l0_3 c0_3 p0_4 l0_4 c0_4 n1 n2 n3 w R) : Calls Tryz.prog 27 #[.agg #[.int .i64 n0_0, .int .i64 n0_1, .int .i64 n0_2, .slice p0_3 l0_3 c0_3, .slice p0_4 l0_4 c0_4], .int .i64 n1, .int .i64 n2, .int .i64 n3] w fun e w1 => ∃ v, e = .returned v ∧ R v w1 := fnP_calls callable Tryz.func27 (revetmentref16_Sector_eq n0_0 n0_1 n0_2 p0_3 l0_3 c0_3 p0_4 l0_4 c0_4 n1 n2 n3 w R ▸ h)

/-- revetment/revetmentref16.Lost -/
def revetmentref16_Lost (n0_0 : Int) (n0_1 : Int) (n0_2 : Int) (p0_3 : Option Addr) (l0_3 c0_3 : Nat) (p0_4 : Option Addr) (l0_4 c0_4 : Nat) (n1 : Int) (w : World) (R : Value → World → Prop) : Prop :=
  Alloc #[.int .i64 n0_0, .int .i64 n0_1, .int .i64 n0_2, .slice p0_3 l0_3 c0_3, .slice p0_4 l0_4 c0_4] 33 w fun k2 w1 =>
  ∃ n9_0 : Int, ∃ n9_1 : Int, ∃ n9_2 : Int, ∃ (p9_3 : Option Addr) (l9_3 c9_3 : Nat), ∃ (p9_4 : Option Addr) (l9_4 c9_4 : Nat), (w1.cell? ⟨k2, 0, none⟩ = some (.int .i64 n9_0) ∧ w1.cell? ⟨k2, 1, none⟩ = some (.int .i64 n9_1) ∧ w1.cell? ⟨k2, 2, none⟩ = some (.int .i64 n9_2) ∧ w1.cell? ⟨k2, 3, none⟩ = some (.slice p9_3 l9_3 c9_3) ∧ w1.cell? ⟨k2, 4, none⟩ = some (.slice p9_4 l9_4 c9_4)) ∧
  Calls Tryz.prog 61 #[.agg #[.int .i64 n9_0, .int .i64 n9_1, .int .i64 n9_2, .slice p9_3 l9_3 c9_3, .slice p9_4 l9_4 c9_4], .int .i64 n1, .int .i64 0] w1 fun e w2 => ∃ n11 : Int, e = .returned (.int .i64 n11) ∧
  ((n11 != 0) = true →
  R (.tuple #[.slice none 0 0, .int .i64 n11]) w2) ∧
  ((n11 != 0) = false →
  Alloc #[] 3 w2 fun k15 w3 =>
  LoopP (fun I => I [.slice (some ⟨k15, 0, none⟩) 0 0, .int .i64 0] w3) fun K vs w4 => ∃ (p7 : Option Addr) (l7 c7 : Nat), ∃ n8 : Int, vs = [.slice p7 l7 c7, .int .i64 n8] ∧
  ∃ n19 : Int, w4.cell? ⟨k2, 0, none⟩ = some (.int .i64 n19) ∧
  ((decide (n8 < n19)) = true →
  ∃ D : World → Prop, D w4.drew ∧
  ∃ n23_0 : Int, ∃ n23_1 : Int, ∃ n23_2 : Int, ∃ (p23_3 : Option Addr) (l23_3 c23_3 : Nat), ∃ (p23_4 : Option Addr) (l23_4 c23_4 : Nat), (∀ w, D w → w.cell? ⟨k2, 0, none⟩ = some (.int .i64 n23_0) ∧ w.cell? ⟨k2, 1, none⟩ = some (.int .i64 n23_1) ∧ w.cell? ⟨k2, 2, none⟩ = some (.int .i64 n23_2) ∧ w.cell? ⟨k2, 3, none⟩ = some (.slice p23_3 l23_3 c23_3) ∧ w.cell? ⟨k2, 4, none⟩ = some (.slice p23_4 l23_4 c23_4)) ∧
  ∃ n25_0 : Int, ∃ n25_1 : Int, ∃ n25_2 : Int, ∃ (p25_3 : Option Addr) (l25_3 c25_3 : Nat), ∃ (p25_4 : Option Addr) (l25_4 c25_4 : Nat), (∀ w, D w → w.cell? ⟨k2, 0, none⟩ = some (.int .i64 n25_0) ∧ w.cell? ⟨k2, 1, none⟩ = some (.int .i64 n25_1) ∧ w.cell? ⟨k2, 2, none⟩ = some (.int .i64 n25_2) ∧ w.cell? ⟨k2, 3, none⟩ = some (.slice p25_3 l25_3 c25_3) ∧ w.cell? ⟨k2, 4, none⟩ = some (.slice p25_4 l25_4 c25_4)) ∧
  Calls Tryz.prog 62 #[.agg #[.int .i64 n25_0, .int .i64 n25_1, .int .i64 n25_2, .slice p25_3 l25_3 c25_3, .slice p25_4 l25_4 c25_4], .int .i64 n1, .int .i64 n8] w4.drew fun e_1 w5 => ∃ n28 : Int, e_1 = .returned (.int .i64 n28) ∧
  D w5 ∧
  Calls Tryz.prog 63 #[.agg #[.int .i64 n23_0, .int .i64 n23_1, .int .i64 n23_2, .slice p23_3 l23_3 c23_3, .slice p23_4 l23_4 c23_4], .int .i64 n1, .int .i64 n28] w5 fun e_2 w6 => ∃ b29 : Bool, e_2 = .returned (.bool b29) ∧
  (b29 = true →
  Alloc #[.int .i64 n8] 3 w6 fun k32 w7 =>
  ∃ (p33 : Option Addr) (l33 c33 : Nat), ∃ w8, (builtin .append #[28, 28] 28 #[false, false] #[.slice p7 l7 c7, .slice (some ⟨k32, 0, none⟩) 1 1]).run Tryz.prog w7 = .ok (.value (.slice p33 l33 c33)) w8 ∧
  K [.slice p33 l33 c33, .int .i64 (IntKind.i64.wrap (n8 + 1))] w8) ∧
  (b29 = false →
  K [.slice p7 l7 c7, .int .i64 (IntKind.i64.wrap (n8 + 1))] w6)) ∧
  ((decide (n8 < n19)) = false →
  R (.tuple #[.slice p7 l7 c7, .int .i64 0]) w4))
theorem revetmentref16_Lost_eq (n0_0 : Int) (n0_1 : Int) (n0_2 : Int) (p0_3 : Option Addr) (l0_3 c0_3 : Nat) (p0_4 : Option Addr) (l0_4 c0_4 : Nat) (n1 : Int) (w : World) (R : Value → World → Prop) : revetmentref16_Lost n0_0 n0_1 n0_2 p0_3 l0_3 c0_3 p0_4 l0_4 c0_4 n1 w R = fnP Tryz.prog Tryz.f28 (.s .o (.s .o (.s .o (.s .o (.s (.s .o (.b (.l [(7, .one .slice), (8, .one (.int .i64))] .o))) .o))))) [.agg #[.int .i64 n0_0, .int .i64 n0_1, .int .i64 n0_2, .slice p0_3 l0_3 c0_3, .slice p0_4 l0_4 c0_4], .int .i64 n1] w R := by kernel_rfl
theorem revetmentref16_Lost_calls {n0_0 : Int} {n0_1 : Int} {n0_2 : Int} {p0_3 : Option Addr} {l0_3 c0_3 : Nat} {p0_4 : Option Addr} {l0_4 c0_4 : Nat} {n1 : Int} {w : World} {R : Value → World → Prop} (h : revetmentref16_Lost n0_0 n0_1 n0_2 p0_3 l0_3 c0_3 p0_4 l0_4 c0_4 n1 w R) : Calls Tryz.prog 28 #[.agg #[.int .i64 n0_0, .int .i64 n0_1, .int .i64 n0_2, .slice p0_3 l0_3 c0_3, .slice p0_4 l0_4 c0_4], .int .i64 n1] w fun e w1 => ∃ v, e = .returned v ∧ R v w1 := fnP_calls callable Tryz.func28 (revetmentref16_Lost_eq n0_0 n0_1 n0_2 p0_3 l0_3 c0_3 p0_4 l0_4 c0_4 n1 w R ▸ h)

/-- revetment/revetmentref06.Same -/
def revetmentref06_Same (p0 : Option Addr) (l0 c0 : Nat) (p1 : Option Addr) (l1 c1 : Nat) (w : World) (R : Value → World → Prop) : Prop :=
  (((l0 : Int) != (l1 : Int)) = true →
  R (.bool false) w) ∧
  (((l0 : Int) != (l1 : Int)) = false →
  LoopP (fun I => I [.int .i64 0] w) fun K vs w1 => ∃ n5 : Int, vs = [.int .i64 n5] ∧
  ((decide (n5 < (l0 : Int))) = true →
  ∃ D : World → Prop, D w1.drew ∧
  ∃ a19 : Addr, p0 = some a19 ∧ (0 : Int) ≤ n5 ∧ n5 < (l0 : Int) ∧
  ∃ s20 : ByteArray, (∀ w, D w → w.cell? (Addr.add a19 (n5.toNat * 1)) = some (.string s20)) ∧
  ∃ a23 : Addr, p1 = some a23 ∧ (0 : Int) ≤ n5 ∧ n5 < (l1 : Int) ∧
  ∃ s24 : ByteArray, (∀ w, D w → w.cell? (Addr.add a23 (n5.toNat * 1)) = some (.string s24)) ∧
  ((!(s20.toList == s24.toList)) = true →
  R (.bool false) w1.drew) ∧
  ((!(s20.toList == s24.toList)) = false →
  K [.int .i64 (IntKind.i64.wrap (n5 + 1))] w1.drew)) ∧
  ((decide (n5 < (l0 : Int))) = false →
  R (.bool true) w1))
theorem revetmentref06_Same_eq (p0 : Option Addr) (l0 c0 : Nat) (p1 : Option Addr) (l1 c1 : Nat) (w : World) (R : Value → World → Prop) : revetmentref06_Same p0 l0 c0 p1 l1 c1 w R = fnP Tryz.prog Tryz.f29 (.s .o (.s .o (.s (.s .o (.b (.l [(5, .one (.int .i64))] .o))) .o))) [.slice p0 l0 c0, .slice p1 l1 c1] w R := by kernel_rfl
theorem revetmentref06_Same_calls {p0 : Option Addr} {l0 c0 : Nat} {p1 : Option Addr} {l1 c1 : Nat} {w : World} {R : Value → World → Prop} (h : revetmentref06_Same p0 l0 c0 p1 l1 c1 w R) : Calls Tryz.prog 29 #[.slice p0 l0 c0, .slice p1 l1 c1] w fun e w1 => ∃ v, e = .returned v ∧ R v w1 := fnP_calls callable Tryz.func29 (revetmentref06_Same_eq p0 l0 c0 p1 l1 c1 w R ▸ h)

/-- revetment/revetmentref10.Same -/
def revetmentref10_Same (p0 : Option Addr) (l0 c0 : Nat) (p1 : Option Addr) (l1 c1 : Nat) (w : World) (R : Value → World → Prop) : Prop :=
  (((l0 : Int) != (l1 : Int)) = true →
  R (.bool false) w) ∧
  (((l0 : Int) != (l1 : Int)) = false →
  LoopP (fun I => I [.int .i64 0] w) fun K vs w1 => ∃ n5 : Int, vs = [.int .i64 n5] ∧
  ((decide (n5 < (l0 : Int))) = true →
  ∃ D : World → Prop, D w1.drew ∧
  ∃ a19 : Addr, p0 = some a19 ∧ (0 : Int) ≤ n5 ∧ n5 < (l0 : Int) ∧
  ∃ n20 : Int, (∀ w, D w → w.cell? (Addr.add a19 (n5.toNat * 1)) = some (.int .i64 n20)) ∧
  ∃ a23 : Addr, p1 = some a23 ∧ (0 : Int) ≤ n5 ∧ n5 < (l1 : Int) ∧
  ∃ n24 : Int, (∀ w, D w → w.cell? (Addr.add a23 (n5.toNat * 1)) = some (.int .i64 n24)) ∧
  ((n20 != n24) = true →
  R (.bool false) w1.drew) ∧
  ((n20 != n24) = false →
  K [.int .i64 (IntKind.i64.wrap (n5 + 1))] w1.drew)) ∧
  ((decide (n5 < (l0 : Int))) = false →
  R (.bool true) w1))
theorem revetmentref10_Same_eq (p0 : Option Addr) (l0 c0 : Nat) (p1 : Option Addr) (l1 c1 : Nat) (w : World) (R : Value → World → Prop) : revetmentref10_Same p0 l0 c0 p1 l1 c1 w R = fnP Tryz.prog Tryz.f30 (.s .o (.s .o (.s (.s .o (.b (.l [(5, .one (.int .i64))] .o))) .o))) [.slice p0 l0 c0, .slice p1 l1 c1] w R := by kernel_rfl
theorem revetmentref10_Same_calls {p0 : Option Addr} {l0 c0 : Nat} {p1 : Option Addr} {l1 c1 : Nat} {w : World} {R : Value → World → Prop} (h : revetmentref10_Same p0 l0 c0 p1 l1 c1 w R) : Calls Tryz.prog 30 #[.slice p0 l0 c0, .slice p1 l1 c1] w fun e w1 => ∃ v, e = .returned v ∧ R v w1 := fnP_calls callable Tryz.func30 (revetmentref10_Same_eq p0 l0 c0 p1 l1 c1 w R ▸ h)

/-- revetment/revetmentref16.May -/
def revetmentref16_May (n0_0 : Int) (n0_1 : Int) (n0_2 : Int) (p0_3 : Option Addr) (l0_3 c0_3 : Nat) (p0_4 : Option Addr) (l0_4 c0_4 : Nat) (w : World) (R : Value → World → Prop) : Prop :=
  Alloc #[.int .i64 n0_0, .int .i64 n0_1, .int .i64 n0_2, .slice p0_3 l0_3 c0_3, .slice p0_4 l0_4 c0_4] 33 w fun k1 w1 =>
  ∃ n5_0 : Int, ∃ n5_1 : Int, ∃ n5_2 : Int, (w1.cell? ⟨k1, 0, none⟩ = some (.int .i64 n5_0) ∧ w1.cell? ⟨k1, 1, none⟩ = some (.int .i64 n5_1) ∧ w1.cell? ⟨k1, 2, none⟩ = some (.int .i64 n5_2)) ∧
  Calls Tryz.prog 68 #[.agg #[.int .i64 n5_0, .int .i64 n5_1, .int .i64 n5_2]] w1 fun e w2 => ∃ n6 : Int, e = .returned (.int .i64 n6) ∧
  ((n6 != 0) = true →
  R (.bool false) w2) ∧
  ((n6 != 0) = false →
  ∃ (p10 : Option Addr) (l10 c10 : Nat), w2.cell? ⟨k1, 3, none⟩ = some (.slice p10 l10 c10) ∧
  ∃ n14 : Int, w2.cell? ⟨k1, 0, none⟩ = some (.int .i64 n14) ∧
  (((l10 : Int) != n14) = true →
  R (.bool false) w2) ∧
  (((l10 : Int) != n14) = false →
  ∃ (p19 : Option Addr) (l19 c19 : Nat), w2.cell? ⟨k1, 4, none⟩ = some (.slice p19 l19 c19) ∧
  ∃ n23 : Int, w2.cell? ⟨k1, 0, none⟩ = some (.int .i64 n23) ∧
  (((l19 : Int) != n23) = true →
  R (.bool false) w2) ∧
  (((l19 : Int) != n23) = false →
  LoopP (fun I => I [.int .i64 0] w2) fun K vs w3 => ∃ n3 : Int, vs = [.int .i64 n3] ∧
  ∃ (p28 : Option Addr) (l28 c28 : Nat), w3.cell? ⟨k1, 3, none⟩ = some (.slice p28 l28 c28) ∧
  ((decide (n3 < (l28 : Int))) = true →
  ∃ D : World → Prop, D w3.drew ∧
  ∃ (p34 : Option Addr) (l34 c34 : Nat), (∀ w, D w → w.cell? ⟨k1, 3, none⟩ = some (.slice p34 l34 c34)) ∧
  ∃ a36 : Addr, p34 = some a36 ∧ (0 : Int) ≤ n3 ∧ n3 < (l34 : Int) ∧
  ∃ p37 : Option Addr, (∀ w, D w → w.cell? (Addr.add a36 (n3.toNat * 1)) = some (.pointer p37)) ∧
  ((!(Option.isNone p37)) = true →
  ∃ (p41 : Option Addr) (l41 c41 : Nat), (∀ w, D w → w.cell? ⟨k1, 3, none⟩ = some (.slice p41 l41 c41)) ∧
  ∃ a43 : Addr, p41 = some a43 ∧ (0 : Int) ≤ n3 ∧ n3 < (l41 : Int) ∧
  ∃ p44 : Option Addr, (∀ w, D w → w.cell? (Addr.add a43 (n3.toNat * 1)) = some (.pointer p44)) ∧
  ∃ a45 : Addr, p44 = some a45 ∧
  ∃ (p47 : Option Addr) (l47 c47 : Nat), (∀ w, D w → w.cell? a45 = some (.slice p47 l47 c47)) ∧
  ∃ n50_0 : Int, ∃ n50_1 : Int, ∃ n50_2 : Int, (∀ w, D w → w.cell? ⟨k1, 0, none⟩ = some (.int .i64 n50_0) ∧ w.cell? ⟨k1, 1, none⟩ = some (.int .i64 n50_1) ∧ w.cell? ⟨k1, 2, none⟩ = some (.int .i64 n50_2)) ∧
  Calls Tryz.prog 69 #[.agg #[.int .i64 n50_0, .int .i64 n50_1, .int .i64 n50_2]] w3.drew fun e_1 w4 => ∃ n51 : Int, e_1 = .returned (.int .i64 n51) ∧
  D w4 ∧
  ((decide ((l47 : Int) < n51)) = true →
  R (.bool false) w4) ∧
  ((decide ((l47 : Int) < n51)) = false →
  K [.int .i64 (IntKind.i64.wrap (n3 + 1))] w4)) ∧
  ((!(Option.isNone p37)) = false →
  K [.int .i64 (IntKind.i64.wrap (n3 + 1))] w3.drew)) ∧
  ((decide (n3 < (l28 : Int))) = false →
  R (.bool true) w3))))
theorem revetmentref16_May_eq (n0_0 : Int) (n0_1 : Int) (n0_2 : Int) (p0_3 : Option Addr) (l0_3 c0_3 : Nat) (p0_4 : Option Addr) (l0_4 c0_4 : Nat) (w : World) (R : Value → World → Prop) : revetmentref16_May n0_0 n0_1 n0_2 p0_3 l0_3 c0_3 p0_4 l0_4 c0_4 w R = fnP Tryz.prog Tryz.f31 (.s .o (.s .o (.s (.s .o (.b (.l [(3, .one (.int .i64))] .o))) .o))) [.agg #[.int .i64 n0_0, .int .i64 n0_1, .int .i64 n0_2, .slice p0_3 l0_3 c0_3, .slice p0_4 l0_4 c0_4]] w R := by kernel_rfl
theorem revetmentref16_May_calls {n0_0 : Int} {n0_1 : Int} {n0_2 : Int} {p0_3 : Option Addr} {l0_3 c0_3 : Nat} {p0_4 : Option Addr} {l0_4 c0_4 : Nat} {w : World} {R : Value → World → Prop} (h : revetmentref16_May n0_0 n0_1 n0_2 p0_3 l0_3 c0_3 p0_4 l0_4 c0_4 w R) : Calls Tryz.prog 31 #[.agg #[.int .i64 n0_0, .int .i64 n0_1, .int .i64 n0_2, .slice p0_3 l0_3 c0_3, .slice p0_4 l0_4 c0_4]] w fun e w1 => ∃ v, e = .returned v ∧ R v w1 := fnP_calls callable Tryz.func31 (revetmentref16_May_eq n0_0 n0_1 n0_2 p0_3 l0_3 c0_3 p0_4 l0_4 c0_4 w R ▸ h)

/-- revetment/revetmentref01.Exp -/
def revetmentref01_Exp (n0 : Int) (w : World) (R : Value → World → Prop) : Prop :=
  Calls Tryz.prog 71 #[.int .u8 2, .int .i64 n0] w fun e w1 => ∃ n4 : Int, e = .returned (.int .u8 n4) ∧
  R (.int .u8 n4) w1
theorem revetmentref01_Exp_eq (n0 : Int) (w : World) (R : Value → World → Prop) : revetmentref01_Exp n0 w R = fnP Tryz.prog Tryz.f37 .o [.int .i64 n0] w R := by kernel_rfl
theorem revetmentref01_Exp_calls {n0 : Int} {w : World} {R : Value → World → Prop} (h : revetmentref01_Exp n0 w R) : Calls Tryz.prog 37 #[.int .i64 n0] w fun e w1 => ∃ v, e = .returned v ∧ R v w1 := fnP_calls callable Tryz.func37 (revetmentref01_Exp_eq n0 w R ▸ h)

/-- revetment/revetmentref16.Write -/
def revetmentref16_Write (n0_0 : Int) (n0_1 : Int) (n0_2 : Int) (p0_3 : Option Addr) (l0_3 c0_3 : Nat) (p0_4 : Option Addr) (l0_4 c0_4 : Nat) (n1 : Int) (n2 : Int) (n3 : Int) (s4 : ByteArray) (w : World) (R : Value → World → Prop) : Prop :=
  Alloc #[.int .i64 n0_0, .int .i64 n0_1, .int .i64 n0_2, .slice p0_3 l0_3 c0_3, .slice p0_4 l0_4 c0_4] 33 w fun k5 w1 =>
  ∃ n13_0 : Int, ∃ n13_1 : Int, ∃ n13_2 : Int, ∃ (p13_3 : Option Addr) (l13_3 c13_3 : Nat), ∃ (p13_4 : Option Addr) (l13_4 c13_4 : Nat), (w1.cell? ⟨k5, 0, none⟩ = some (.int .i64 n13_0) ∧ w1.cell? ⟨k5, 1, none⟩ = some (.int .i64 n13_1) ∧ w1.cell? ⟨k5, 2, none⟩ = some (.int .i64 n13_2) ∧ w1.cell? ⟨k5, 3, none⟩ = some (.slice p13_3 l13_3 c13_3) ∧ w1.cell? ⟨k5, 4, none⟩ = some (.slice p13_4 l13_4 c13_4)) ∧
  Calls Tryz.prog 61 #[.agg #[.int .i64 n13_0, .int .i64 n13_1, .int .i64 n13_2, .slice p13_3 l13_3 c13_3, .slice p13_4 l13_4 c13_4], .int .i64 n1, .int .i64 n2] w1 fun e w2 => ∃ n16 : Int, e = .returned (.int .i64 n16) ∧
  ((n16 != 0) = true →
  R (.int .i64 n16) w2) ∧
  ((n16 != 0) = false →
  ((decide (n3 < 0)) = true →
  R (.int .i64 70) w2) ∧
  ((decide (n3 < 0)) = false →
  ∃ n26 : Int, w2.cell? ⟨k5, 0, none⟩ = some (.int .i64 n26) ∧
  ((decide (n3 ≥ n26)) = true →
  R (.int .i64 70) w2) ∧
  ((decide (n3 ≥ n26)) = false →
  ∃ D : World → Prop, D w2.drew ∧
  ∃ (p30 : Option Addr) (l30 c30 : Nat), (∀ w, D w → w.cell? ⟨k5, 3, none⟩ = some (.slice p30 l30 c30)) ∧
  ∃ n31_0 : Int, ∃ n31_1 : Int, ∃ n31_2 : Int, ∃ (p31_3 : Option Addr) (l31_3 c31_3 : Nat), ∃ (p31_4 : Option Addr) (l31_4 c31_4 : Nat), (∀ w, D w → w.cell? ⟨k5, 0, none⟩ = some (.int .i64 n31_0) ∧ w.cell? ⟨k5, 1, none⟩ = some (.int .i64 n31_1) ∧ w.cell? ⟨k5, 2, none⟩ = some (.int .i64 n31_2) ∧ w.cell? ⟨k5, 3, none⟩ = some (.slice p31_3 l31_3 c31_3) ∧ w.cell? ⟨k5, 4, none⟩ = some (.slice p31_4 l31_4 c31_4)) ∧
  Calls Tryz.prog 62 #[.agg #[.int .i64 n31_0, .int .i64 n31_1, .int .i64 n31_2, .slice p31_3 l31_3 c31_3, .slice p31_4 l31_4 c31_4], .int .i64 n1, .int .i64 n3] w2.drew fun e_1 w3 => ∃ n34 : Int, e_1 = .returned (.int .i64 n34) ∧
  D w3 ∧
  ∃ a35 : Addr, p30 = some a35 ∧ (0 : Int) ≤ n34 ∧ n34 < (l30 : Int) ∧
  ∃ p36 : Option Addr, (∀ x0, x0 = w3 → x0.cell? (Addr.add a35 (n34.toNat * 1)) = some (.pointer p36)) ∧
  ((Option.isNone p36) = true →
  R (.int .i64 40) w3) ∧
  ((Option.isNone p36) = false →
  ∃ a41 : Addr, p36 = some a41 ∧
  ∃ b43 : Bool, w3.cell? (a41.add 3) = some (.bool b43) ∧
  (b43 = true →
  R (.int .i64 40) w3) ∧
  (b43 = false →
  ∃ n47_0 : Int, ∃ n47_1 : Int, ∃ n47_2 : Int, (w3.cell? ⟨k5, 0, none⟩ = some (.int .i64 n47_0) ∧ w3.cell? ⟨k5, 1, none⟩ = some (.int .i64 n47_1) ∧ w3.cell? ⟨k5, 2, none⟩ = some (.int .i64 n47_2)) ∧
  Calls Tryz.prog 65 #[.agg #[.int .i64 n47_0, .int .i64 n47_1, .int .i64 n47_2], .int .i64 n1, .int .i64 n2] w3 fun e_2 w4 => ∃ n50 : Int, e_2 = .returned (.int .i64 n50) ∧
  Calls Tryz.prog 98 #[.pointer p36, .int .i64 n50, .string s4] w4 fun e_3 w5 => ∃ n52 : Int, e_3 = .returned (.int .i64 n52) ∧
  R (.int .i64 n52) w5)))))
theorem revetmentref16_Write_eq (n0_0 : Int) (n0_1 : Int) (n0_2 : Int) (p0_3 : Option Addr) (l0_3 c0_3 : Nat) (p0_4 : Option Addr) (l0_4 c0_4 : Nat) (n1 : Int) (n2 : Int) (n3 : Int) (s4 : ByteArray) (w : World) (R : Value → World → Prop) : revetmentref16_Write n0_0 n0_1 n0_2 p0_3 l0_3 c0_3 p0_4 l0_4 c0_4 n1 n2 n3 s4 w R = fnP Tryz.prog Tryz.f56 .o [.agg #[.int .i64 n0_0, .int .i64 n0_1, .int .i64 n0_2, .slice p0_3 l0_3 c0_3, .slice p0_4 l0_4 c0_4], .int .i64 n1, .int .i64 n2, .int .i64 n3, .string s4] w R := by kernel_rfl
theorem revetmentref16_Write_calls {n0_0 : Int} {n0_1 : Int} {n0_2 : Int} {p0_3 : Option Addr} {l0_3 c0_3 : Nat} {p0_4 : Option Addr} {l0_4 c0_4 : Nat} {n1 : Int} {n2 : Int} {n3 : Int} {s4 : ByteArray} {w : World} {R : Value → World → Prop} (h : revetmentref16_Write n0_0 n0_1 n0_2 p0_3 l0_3 c0_3 p0_4 l0_4 c0_4 n1 n2 n3 s4 w R) : Calls Tryz.prog 56 #[.agg #[.int .i64 n0_0, .int .i64 n0_1, .int .i64 n0_2, .slice p0_3 l0_3 c0_3, .slice p0_4 l0_4 c0_4], .int .i64 n1, .int .i64 n2, .int .i64 n3, .string s4] w fun e w1 => ∃ v, e = .returned v ∧ R v w1 := fnP_calls callable Tryz.func56 (revetmentref16_Write_eq n0_0 n0_1 n0_2 p0_3 l0_3 c0_3 p0_4 l0_4 c0_4 n1 n2 n3 s4 w R ▸ h)

/-- revetment/revetmentref16.Flush -/
def revetmentref16_Flush (n0_0 : Int) (n0_1 : Int) (n0_2 : Int) (p0_3 : Option Addr) (l0_3 c0_3 : Nat) (p0_4 : Option Addr) (l0_4 c0_4 : Nat) (w : World) (R : Value → World → Prop) : Prop :=
  Alloc #[.int .i64 n0_0, .int .i64 n0_1, .int .i64 n0_2, .slice p0_3 l0_3 c0_3, .slice p0_4 l0_4 c0_4] 33 w fun k1 w1 =>
  ∃ n6_0 : Int, ∃ n6_1 : Int, ∃ n6_2 : Int, ∃ (p6_3 : Option Addr) (l6_3 c6_3 : Nat), ∃ (p6_4 : Option Addr) (l6_4 c6_4 : Nat), (w1.cell? ⟨k1, 0, none⟩ = some (.int .i64 n6_0) ∧ w1.cell? ⟨k1, 1, none⟩ = some (.int .i64 n6_1) ∧ w1.cell? ⟨k1, 2, none⟩ = some (.int .i64 n6_2) ∧ w1.cell? ⟨k1, 3, none⟩ = some (.slice p6_3 l6_3 c6_3) ∧ w1.cell? ⟨k1, 4, none⟩ = some (.slice p6_4 l6_4 c6_4)) ∧
  Calls Tryz.prog 31 #[.agg #[.int .i64 n6_0, .int .i64 n6_1, .int .i64 n6_2, .slice p6_3 l6_3 c6_3, .slice p6_4 l6_4 c6_4]] w1 fun e w2 => ∃ b7 : Bool, e = .returned (.bool b7) ∧
  ((!b7) = true →
  R (.int .i64 1) w2) ∧
  ((!b7) = false →
  LoopP (fun I => I [.int .i64 0, .int .i64 0] w2) fun K vs w3 => ∃ n3 : Int, ∃ n4 : Int, vs = [.int .i64 n3, .int .i64 n4] ∧
  ∃ (p11 : Option Addr) (l11 c11 : Nat), w3.cell? ⟨k1, 3, none⟩ = some (.slice p11 l11 c11) ∧
  ((decide (n4 < (l11 : Int))) = true →
  ∃ (p17 : Option Addr) (l17 c17 : Nat), w3.cell? ⟨k1, 3, none⟩ = some (.slice p17 l17 c17) ∧
  ∃ a19 : Addr, p17 = some a19 ∧ (0 : Int) ≤ n4 ∧ n4 < (l17 : Int) ∧
  ∃ p20 : Option Addr, w3.cell? (Addr.add a19 (n4.toNat * 1)) = some (.pointer p20) ∧
  ((Option.isNone p20) = true →
  K [.int .i64 n3, .int .i64 (IntKind.i64.wrap (n4 + 1))] w3) ∧
  ((Option.isNone p20) = false →
  ∃ a25 : Addr, p20 = some a25 ∧
  ∃ b27 : Bool, w3.cell? (a25.add 3) = some (.bool b27) ∧
  (b27 = true →
  K [.int .i64 n3, .int .i64 (IntKind.i64.wrap (n4 + 1))] w3) ∧
  (b27 = false →
  Calls Tryz.prog 100 #[.pointer p20] w3 fun e_1 w4 => ∃ n30 : Int, e_1 = .returned (.int .i64 n30) ∧
  ((n30 == 42) = true →
  K [.int .i64 42, .int .i64 (IntKind.i64.wrap (n4 + 1))] w4) ∧
  ((n30 == 42) = false →
  K [.int .i64 n3, .int .i64 (IntKind.i64.wrap (n4 + 1))] w4)))) ∧
  ((decide (n4 < (l11 : Int))) = false →
  R (.int .i64 n3) w3))
theorem revetmentref16_Flush_eq (n0_0 : Int) (n0_1 : Int) (n0_2 : Int) (p0_3 : Option Addr) (l0_3 c0_3 : Nat) (p0_4 : Option Addr) (l0_4 c0_4 : Nat) (w : World) (R : Value → World → Prop) : revetmentref16_Flush n0_0 n0_1 n0_2 p0_3 l0_3 c0_3 p0_4 l0_4 c0_4 w R = fnP Tryz.prog Tryz.f60 (.s .o (.s .o (.s .o (.s (.s .o (.b (.l [(3, .one (.int .i64)), (4, .one (.int .i64))] .o))) .o)))) [.agg #[.int .i64 n0_0, .int .i64 n0_1, .int .i64 n0_2, .slice p0_3 l0_3 c0_3, .slice p0_4 l0_4 c0_4]] w R := by kernel_rfl
theorem revetmentref16_Flush_calls {n0_0 : Int} {n0_1 : Int} {n0_2 : Int} {p0_3 : Option Addr} {l0_3 c0_3 : Nat} {p0_4 : Option Addr} {l0_4 c0_4 : Nat} {w : World} {R : Value → World → Prop} (h : revetmentref16_Flush n0_0 n0_1 n0_2 p0_3 l0_3 c0_3 p0_4 l0_4 c0_4 w R) : Calls Tryz.prog 60 #[.agg #[.int .i64 n0_0, .int .i64 n0_1, .int .i64 n0_2, .slice p0_3 l0_3 c0_3, .slice p0_4 l0_4 c0_4]] w fun e w1 => ∃ v, e = .returned v ∧ R v w1 := fnP_calls callable Tryz.func60 (revetmentref16_Flush_eq n0_0 n0_1 n0_2 p0_3 l0_3 c0_3 p0_4 l0_4 c0_4 w R ▸ h)

/-- revetment/revetmentref16.check -/
def revetmentref16_check (n0_0 : Int) (n0_1 : Int) (n0_2 : Int) (p0_3 : Option Addr) (l0_3 c0_3 : Nat) (p0_4 : Option Addr) (l0_4 c0_4 : Nat) (n1 : Int) (n2 : Int) (w : World) (R : Value → World → Prop) : Prop :=
  Alloc #[.int .i64 n0_0, .int .i64 n0_1, .int .i64 n0_2, .slice p0_3 l0_3 c0_3, .slice p0_4 l0_4 c0_4] 33 w fun k3 w1 =>
  ∃ n7_0 : Int, ∃ n7_1 : Int, ∃ n7_2 : Int, ∃ (p7_3 : Option Addr) (l7_3 c7_3 : Nat), ∃ (p7_4 : Option Addr) (l7_4 c7_4 : Nat), (w1.cell? ⟨k3, 0, none⟩ = some (.int .i64 n7_0) ∧ w1.cell? ⟨k3, 1, none⟩ = some (.int .i64 n7_1) ∧ w1.cell? ⟨k3, 2, none⟩ = some (.int .i64 n7_2) ∧ w1.cell? ⟨k3, 3, none⟩ = some (.slice p7_3 l7_3 c7_3) ∧ w1.cell? ⟨k3, 4, none⟩ = some (.slice p7_4 l7_4 c7_4)) ∧
  Calls Tryz.prog 31 #[.agg #[.int .i64 n7_0, .int .i64 n7_1, .int .i64 n7_2, .slice p7_3 l7_3 c7_3, .slice p7_4 l7_4 c7_4]] w1 fun e w2 => ∃ b8 : Bool, e = .returned (.bool b8) ∧
  ((!b8) = true →
  R (.int .i64 1) w2) ∧
  ((!b8) = false →
  ((decide (n1 < 0)) = true →
  R (.int .i64 70) w2) ∧
  ((decide (n1 < 0)) = false →
  ∃ n16 : Int, w2.cell? ⟨k3, 2, none⟩ = some (.int .i64 n16) ∧
  ((decide (n1 ≥ n16)) = true →
  R (.int .i64 70) w2) ∧
  ((decide (n1 ≥ n16)) = false →
  ((decide (n2 < 0)) = true →
  R (.int .i64 70) w2) ∧
  ((decide (n2 < 0)) = false →
  ∃ n27 : Int, w2.cell? ⟨k3, 1, none⟩ = some (.int .i64 n27) ∧
  ((decide (n2 ≥ n27)) = true →
  R (.int .i64 70) w2) ∧
  ((decide (n2 ≥ n27)) = false →
  R (.int .i64 0) w2)))))
theorem revetmentref16_check_eq (n0_0 : Int) (n0_1 : Int) (n0_2 : Int) (p0_3 : Option Addr) (l0_3 c0_3 : Nat) (p0_4 : Option Addr) (l0_4 c0_4 : Nat) (n1 : Int) (n2 : Int) (w : World) (R : Value → World → Prop) : revetmentref16_check n0_0 n0_1 n0_2 p0_3 l0_3 c0_3 p0_4 l0_4 c0_4 n1 n2 w R = fnP Tryz.prog Tryz.f61 .o [.agg #[.int .i64 n0_0, .int .i64 n0_1, .int .i64 n0_2, .slice p0_3 l0_3 c0_3, .slice p0_4 l0_4 c0_4], .int .i64 n1, .int .i64 n2] w R := by kernel_rfl
theorem revetmentref16_check_calls {n0_0 : Int} {n0_1 : Int} {n0_2 : Int} {p0_3 : Option Addr} {l0_3 c0_3 : Nat} {p0_4 : Option Addr} {l0_4 c0_4 : Nat} {n1 : Int} {n2 : Int} {w : World} {R : Value → World → Prop} (h : revetmentref16_check n0_0 n0_1 n0_2 p0_3 l0_3 c0_3 p0_4 l0_4 c0_4 n1 n2 w R) : Calls Tryz.prog 61 #[.agg #[.int .i64 n0_0, .int .i64 n0_1, .int .i64 n0_2, .slice p0_3 l0_3 c0_3, .slice p0_4 l0_4 c0_4], .int .i64 n1, .int .i64 n2] w fun e w1 => ∃ v, e = .returned v ∧ R v w1 := fnP_calls callable Tryz.func61 (revetmentref16_check_eq n0_0 n0_1 n0_2 p0_3 l0_3 c0_3 p0_4 l0_4 c0_4 n1 n2 w R ▸ h)

/-- revetment/revetmentref16.column -/
def revetmentref16_column (n0_0 : Int) (n0_1 : Int) (n0_2 : Int) (p0_3 : Option Addr) (l0_3 c0_3 : Nat) (p0_4 : Option Addr) (l0_4 c0_4 : Nat) (n1 : Int) (n2 : Int) (w : World) (R : Value → World → Prop) : Prop :=
  Alloc #[.int .i64 n0_0, .int .i64 n0_1, .int .i64 n0_2, .slice p0_3 l0_3 c0_3, .slice p0_4 l0_4 c0_4] 33 w fun k3 w1 =>
  LoopP (fun I => I [.int .i64 0] w1) fun K vs w2 => ∃ n7 : Int, vs = [.int .i64 n7] ∧
  ∃ n11 : Int, w2.cell? ⟨k3, 0, none⟩ = some (.int .i64 n11) ∧
  ((decide (n7 < n11)) = true →
  ∃ n16_0 : Int, ∃ n16_1 : Int, ∃ n16_2 : Int, (w2.cell? ⟨k3, 0, none⟩ = some (.int .i64 n16_0) ∧ w2.cell? ⟨k3, 1, none⟩ = some (.int .i64 n16_1) ∧ w2.cell? ⟨k3, 2, none⟩ = some (.int .i64 n16_2)) ∧
  Calls Tryz.prog 101 #[.agg #[.int .i64 n16_0, .int .i64 n16_1, .int .i64 n16_2], .int .i64 n1, .int .i64 n7] w2 fun e w3 => ∃ n19 : Int, e = .returned (.int .i64 n19) ∧
  ((n19 == n2) = true →
  R (.int .i64 n7) w3) ∧
  ((n19 == n2) = false →
  K [.int .i64 (IntKind.i64.wrap (n7 + 1))] w3)) ∧
  ((decide (n7 < n11)) = false →
  R (.int .i64 0) w2)
theorem revetmentref16_column_eq (n0_0 : Int) (n0_1 : Int) (n0_2 : Int) (p0_3 : Option Addr) (l0_3 c0_3 : Nat) (p0_4 : Option Addr) (l0_4 c0_4 : Nat) (n1 : Int) (n2 : Int) (w : World) (R : Value → World → Prop) : revetmentref16_column n0_0 n0_1 n0_2 p0_3 l0_3 c0_3 p0_4 l0_4 c0_4 n1 n2 w R = fnP Tryz.prog Tryz.f62 (.s .o (.s (.s .o (.b (.l [(7, .one (.int .i64))] .o))) .o)) [.agg #[.int .i64 n0_0, .int .i64 n0_1, .int .i64 n0_2, .slice p0_3 l0_3 c0_3, .slice p0_4 l0_4 c0_4], .int .i64 n1, .int .i64 n2] w R := by kernel_rfl
theorem revetmentref16_column_calls {n0_0 : Int} {n0_1 : Int} {n0_2 : Int} {p0_3 : Option Addr} {l0_3 c0_3 : Nat} {p0_4 : Option Addr} {l0_4 c0_4 : Nat} {n1 : Int} {n2 : Int} {w : World} {R : Value → World → Prop} (h : revetmentref16_column n0_0 n0_1 n0_2 p0_3 l0_3 c0_3 p0_4 l0_4 c0_4 n1 n2 w R) : Calls Tryz.prog 62 #[.agg #[.int .i64 n0_0, .int .i64 n0_1, .int .i64 n0_2, .slice p0_3 l0_3 c0_3, .slice p0_4 l0_4 c0_4], .int .i64 n1, .int .i64 n2] w fun e w1 => ∃ v, e = .returned v ∧ R v w1 := fnP_calls callable Tryz.func62 (revetmentref16_column_eq n0_0 n0_1 n0_2 p0_3 l0_3 c0_3 p0_4 l0_4 c0_4 n1 n2 w R ▸ h)

/-- revetment/revetmentref16.missing -/
def revetmentref16_missing (n0_0 : Int) (n0_1 : Int) (n0_2 : Int) (p0_3 : Option Addr) (l0_3 c0_3 : Nat) (p0_4 : Option Addr) (l0_4 c0_4 : Nat) (n1 : Int) (n2 : Int) (w : World) (R : Value → World → Prop) : Prop :=
  Alloc #[.int .i64 n0_0, .int .i64 n0_1, .int .i64 n0_2, .slice p0_3 l0_3 c0_3, .slice p0_4 l0_4 c0_4] 33 w fun k3 w1 =>
  ∃ (p8 : Option Addr) (l8 c8 : Nat), w1.cell? ⟨k3, 3, none⟩ = some (.slice p8 l8 c8) ∧
  ∃ a10 : Addr, p8 = some a10 ∧ (0 : Int) ≤ n2 ∧ n2 < (l8 : Int) ∧
  ∃ p11 : Option Addr, w1.cell? (Addr.add a10 (n2.toNat * 1)) = some (.pointer p11) ∧
  ((Option.isNone p11) = true →
  R (.bool true) w1) ∧
  ((Option.isNone p11) = false →
  ∃ (p15 : Option Addr) (l15 c15 : Nat), w1.cell? ⟨k3, 3, none⟩ = some (.slice p15 l15 c15) ∧
  ∃ a17 : Addr, p15 = some a17 ∧ (0 : Int) ≤ n2 ∧ n2 < (l15 : Int) ∧
  ∃ p18 : Option Addr, w1.cell? (Addr.add a17 (n2.toNat * 1)) = some (.pointer p18) ∧
  ∃ a19 : Addr, p18 = some a19 ∧
  ∃ b21 : Bool, w1.cell? (a19.add 3) = some (.bool b21) ∧
  (b21 = true →
  R (.bool true) w1) ∧
  (b21 = false →
  ∃ (p25 : Option Addr) (l25 c25 : Nat), w1.cell? ⟨k3, 4, none⟩ = some (.slice p25 l25 c25) ∧
  ∃ a27 : Addr, p25 = some a27 ∧ (0 : Int) ≤ n2 ∧ n2 < (l25 : Int) ∧
  ∃ n28 : Int, w1.cell? (Addr.add a27 (n2.toNat * 1)) = some (.int .i64 n28) ∧
  R (.bool (decide (n28 ≤ n1))) w1))
theorem revetmentref16_missing_eq (n0_0 : Int) (n0_1 : Int) (n0_2 : Int) (p0_3 : Option Addr) (l0_3 c0_3 : Nat) (p0_4 : Option Addr) (l0_4 c0_4 : Nat) (n1 : Int) (n2 : Int) (w : World) (R : Value → World → Prop) : revetmentref16_missing n0_0 n0_1 n0_2 p0_3 l0_3 c0_3 p0_4 l0_4 c0_4 n1 n2 w R = fnP Tryz.prog Tryz.f63 .o [.agg #[.int .i64 n0_0, .int .i64 n0_1, .int .i64 n0_2, .slice p0_3 l0_3 c0_3, .slice p0_4 l0_4 c0_4], .int .i64 n1, .int .i64 n2] w R := by kernel_rfl
theorem revetmentref16_missing_calls {n0_0 : Int} {n0_1 : Int} {n0_2 : Int} {p0_3 : Option Addr} {l0_3 c0_3 : Nat} {p0_4 : Option Addr} {l0_4 c0_4 : Nat} {n1 : Int} {n2 : Int} {w : World} {R : Value → World → Prop} (h : revetmentref16_missing n0_0 n0_1 n0_2 p0_3 l0_3 c0_3 p0_4 l0_4 c0_4 n1 n2 w R) : Calls Tryz.prog 63 #[.agg #[.int .i64 n0_0, .int .i64 n0_1, .int .i64 n0_2, .slice p0_3 l0_3 c0_3, .slice p0_4 l0_4 c0_4], .int .i64 n1, .int .i64 n2] w fun e w1 => ∃ v, e = .returned v ∧ R v w1 := fnP_calls callable Tryz.func63 (revetmentref16_missing_eq n0_0 n0_1 n0_2 p0_3 l0_3 c0_3 p0_4 l0_4 c0_4 n1 n2 w R ▸ h)

/-- revetment/revetmentref07.Sector -/
def revetmentref07_Sector (n0_0 : Int) (n0_1 : Int) (n0_2 : Int) (n1 : Int) (n2 : Int) (w : World) (R : Value → World → Prop) : Prop :=
  Alloc #[.int .i64 n0_0, .int .i64 n0_1, .int .i64 n0_2] 25 w fun k3 w1 =>
  ∃ n7_0 : Int, ∃ n7_1 : Int, ∃ n7_2 : Int, (w1.cell? ⟨k3, 0, none⟩ = some (.int .i64 n7_0) ∧ w1.cell? ⟨k3, 1, none⟩ = some (.int .i64 n7_1) ∧ w1.cell? ⟨k3, 2, none⟩ = some (.int .i64 n7_2)) ∧
  ∃ n11 : Int, w1.cell? ⟨k3, 1, none⟩ = some (.int .i64 n11) ∧
  Calls Tryz.prog 102 #[.agg #[.int .i64 n7_0, .int .i64 n7_1, .int .i64 n7_2], .int .i64 n1, .int .i64 n2, .int .i64 n11] w1 fun e w2 => ∃ b12 : Bool, e = .returned (.bool b12) ∧
  ((!b12) = true →
  R (.int .i64 0) w2) ∧
  ((!b12) = false →
  ∃ n16 : Int, w2.cell? ⟨k3, 1, none⟩ = some (.int .i64 n16) ∧
  R (.int .i64 (IntKind.i64.wrap ((IntKind.i64.wrap (4 + (IntKind.i64.wrap (n1 * n16)))) + n2))) w2)
theorem revetmentref07_Sector_eq (n0_0 : Int) (n0_1 : Int) (n0_2 : Int) (n1 : Int) (n2 : Int) (w : World) (R : Value → World → Prop) : revetmentref07_Sector n0_0 n0_1 n0_2 n1 n2 w R = fnP Tryz.prog Tryz.f65 .o [.agg #[.int .i64 n0_0, .int .i64 n0_1, .int .i64 n0_2], .int .i64 n1, .int .i64 n2] w R := by kernel_rfl
theorem revetmentref07_Sector_calls {n0_0 : Int} {n0_1 : Int} {n0_2 : Int} {n1 : Int} {n2 : Int} {w : World} {R : Value → World → Prop} (h : revetmentref07_Sector n0_0 n0_1 n0_2 n1 n2 w R) : Calls Tryz.prog 65 #[.agg #[.int .i64 n0_0, .int .i64 n0_1, .int .i64 n0_2], .int .i64 n1, .int .i64 n2] w fun e w1 => ∃ v, e = .returned v ∧ R v w1 := fnP_calls callable Tryz.func65 (revetmentref07_Sector_eq n0_0 n0_1 n0_2 n1 n2 w R ▸ h)

/-- revetment/revetmentref06.Fill -/
def revetmentref06_Fill (p0 : Option Addr) (l0 c0 : Nat) (p1 : Option Addr) (l1 c1 : Nat) (w : World) (R : Value → World → Prop) : Prop :=
  Calls Tryz.prog 103 #[.slice p0 l0 c0, .slice p1 l1 c1] w fun e w1 => ∃ n16 : Int, e = .returned (.int .i64 n16) ∧
  ((n16 != 0) = true →
  R (.tuple #[.slice none 0 0, .int .i64 n16]) w1) ∧
  ((n16 != 0) = false →
  Alloc #[] 92 w1 fun k20 w2 =>
  LoopP (fun I => I [.slice (some ⟨k20, 0, none⟩) 0 0, .int .i64 0] w2) fun K vs w3 => ∃ (p7 : Option Addr) (l7 c7 : Nat), ∃ n8 : Int, vs = [.slice p7 l7 c7, .int .i64 n8] ∧
  ((decide (n8 < (l0 : Int))) = true →
  Alloc #[] 5 w3 fun k28 w4 =>
  Alloc #[.slice (some ⟨k28, 0, none⟩) 0 0] 92 w4 fun k29 w5 =>
  ∃ (p30 : Option Addr) (l30 c30 : Nat), ∃ w6, (builtin .append #[140, 140] 140 #[false, false] #[.slice p7 l7 c7, .slice (some ⟨k29, 0, none⟩) 1 1]).run Tryz.prog w5 = .ok (.value (.slice p30 l30 c30)) w6 ∧
  K [.slice p30 l30 c30, .int .i64 (IntKind.i64.wrap (n8 + 1))] w6) ∧
  ((decide (n8 < (l0 : Int))) = false →
  LoopP (fun I_1 => I_1 [.int .i64 0] w3) fun K_1 vs_1 w7 => ∃ n9 : Int, vs_1 = [.int .i64 n9] ∧
  Calls Tryz.prog 104 #[.slice p0 l0 c0, .slice p1 l1 c1] w7 fun e_1 w8 => ∃ n34 : Int, e_1 = .returned (.int .i64 n34) ∧
  ((decide (n9 < n34)) = true →
  Calls Tryz.prog 106 #[.slice p0 l0 c0, .slice p1 l1 c1, .int .i64 n9] w8 fun e_2 w9 => ∃ (p41 : Option Addr) (l41 c41 : Nat), e_2 = .returned (.slice p41 l41 c41) ∧
  Calls Tryz.prog 105 #[.slice p41 l41 c41, .slice p1 l1 c1] w9 fun e_3 w10 => ∃ (p43 : Option Addr) (l43 c43 : Nat), e_3 = .returned (.slice p43 l43 c43) ∧
  LoopP (fun I_2 => I_2 [.int .i64 0] w10) fun K_2 vs_2 w11 => ∃ n11 : Int, vs_2 = [.int .i64 n11] ∧
  ((decide (n11 < (l0 : Int))) = true →
  ∃ D : World → Prop, D w11.drew ∧
  ∃ a54 : Addr, p7 = some a54 ∧ (0 : Int) ≤ n11 ∧ n11 < (l7 : Int) ∧
  ∃ (p55 : Option Addr) (l55 c55 : Nat), (∀ w, D w → w.cell? (Addr.add a54 (n11.toNat * 1)) = some (.slice p55 l55 c55)) ∧
  ∃ a58 : Addr, p43 = some a58 ∧ (0 : Int) ≤ n11 ∧ n11 < (l43 : Int) ∧
  ∃ n59 : Int, (∀ w, D w → w.cell? (Addr.add a58 (n11.toNat * 1)) = some (.int .u8 n59)) ∧
  Alloc #[.int .u8 n59] 5 w11.drew fun k60 w12 =>
  D w12 ∧
  ∃ (p61 : Option Addr) (l61 c61 : Nat), ∃ w13, (builtin .append #[92, 92] 92 #[false, false] #[.slice p55 l55 c55, .slice (some ⟨k60, 0, none⟩) 1 1]).run Tryz.prog w12 = .ok (.value (.slice p61 l61 c61)) w13 ∧
  D w13 ∧
  ∃ a62 : Addr, p7 = some a62 ∧ (0 : Int) ≤ n11 ∧ n11 < (l7 : Int) ∧
  St (Addr.add a62 (n11.toNat * 1)) (.slice p61 l61 c61) w13 fun w14 =>
  K_2 [.int .i64 (IntKind.i64.wrap (n11 + 1))] w14) ∧
  ((decide (n11 < (l0 : Int))) = false →
  K_1 [.int .i64 (IntKind.i64.wrap (n9 + 1))] w11)) ∧
  ((decide (n9 < n34)) = false →
  Alloc #[] 9 w8 fun k63 w15 =>
  LoopP (fun I_3 => I_3 [.slice (some ⟨k63, 0, none⟩) 0 0, .int .i64 0] w15) fun K_3 vs_3 w16 => ∃ (p12 : Option Addr) (l12 c12 : Nat), ∃ n13 : Int, vs_3 = [.slice p12 l12 c12, .int .i64 n13] ∧
  ((decide (n13 < (l7 : Int))) = true →
  ∃ a73 : Addr, p7 = some a73 ∧ (0 : Int) ≤ n13 ∧ n13 < (l7 : Int) ∧
  ∃ (p74 : Option Addr) (l74 c74 : Nat), w16.cell? (Addr.add a73 (n13.toNat * 1)) = some (.slice p74 l74 c74) ∧
  ∃ s75 : ByteArray, ∃ w17, (convert 92 9 (.slice p74 l74 c74)).run Tryz.prog w16 = .ok (.string s75) w17 ∧
  Alloc #[.string s75] 9 w17 fun k76 w18 =>
  ∃ (p77 : Option Addr) (l77 c77 : Nat), ∃ w19, (builtin .append #[22, 22] 22 #[false, false] #[.slice p12 l12 c12, .slice (some ⟨k76, 0, none⟩) 1 1]).run Tryz.prog w18 = .ok (.value (.slice p77 l77 c77)) w19 ∧
  K_3 [.slice p77 l77 c77, .int .i64 (IntKind.i64.wrap (n13 + 1))] w19) ∧
  ((decide (n13 < (l7 : Int))) = false →
  R (.tuple #[.slice p12 l12 c12, .int .i64 0]) w16))))
theorem revetmentref06_Fill_eq (p0 : Option Addr) (l0 c0 : Nat) (p1 : Option Addr) (l1 c1 : Nat) (w : World) (R : Value → World → Prop) : revetmentref06_Fill p0 l0 c0 p1 l1 c1 w R = fnP Tryz.prog Tryz.f66 (.s .o (.s .o (.s .o (.s .o (.s (.s .o (.b (.l [(7, .one .slice), (8, .one (.int .i64))] .o))) (.s (.s .o (.b (.l [(9, .one (.int .i64))] (.s .o (.s (.b (.s .o (.s .o (.b (.l [(11, .one (.int .i64))] .o))))) .o))))) (.s .o (.s (.s .o (.b (.l [(12, .one .slice), (13, .one (.int .i64))] .o))) .o)))))))) [.slice p0 l0 c0, .slice p1 l1 c1] w R := by kernel_rfl
theorem revetmentref06_Fill_calls {p0 : Option Addr} {l0 c0 : Nat} {p1 : Option Addr} {l1 c1 : Nat} {w : World} {R : Value → World → Prop} (h : revetmentref06_Fill p0 l0 c0 p1 l1 c1 w R) : Calls Tryz.prog 66 #[.slice p0 l0 c0, .slice p1 l1 c1] w fun e w1 => ∃ v, e = .returned v ∧ R v w1 := fnP_calls callable Tryz.func66 (revetmentref06_Fill_eq p0 l0 c0 p1 l1 c1 w R ▸ h)

/-- revetment/revetmentref07.Column -/
def revetmentref07_Column (n0_0 : Int) (n0_1 : Int) (n0_2 : Int) (n1 : Int) (n2 : Int) (w : World) (R : Value → World → Prop) : Prop :=
  Alloc #[.int .i64 n0_0, .int .i64 n0_1, .int .i64 n0_2] 25 w fun k3 w1 =>
  ∃ n9_0 : Int, ∃ n9_1 : Int, ∃ n9_2 : Int, (w1.cell? ⟨k3, 0, none⟩ = some (.int .i64 n9_0) ∧ w1.cell? ⟨k3, 1, none⟩ = some (.int .i64 n9_1) ∧ w1.cell? ⟨k3, 2, none⟩ = some (.int .i64 n9_2)) ∧
  ∃ n13 : Int, w1.cell? ⟨k3, 0, none⟩ = some (.int .i64 n13) ∧
  Calls Tryz.prog 102 #[.agg #[.int .i64 n9_0, .int .i64 n9_1, .int .i64 n9_2], .int .i64 n1, .int .i64 n2, .int .i64 (IntKind.i64.wrap (n13 - 2))] w1 fun e w2 => ∃ b15 : Bool, e = .returned (.bool b15) ∧
  ((!b15) = true →
  R (.int .i64 0) w2) ∧
  ((!b15) = false →
  ∃ n18_0 : Int, ∃ n18_1 : Int, ∃ n18_2 : Int, (w2.cell? ⟨k3, 0, none⟩ = some (.int .i64 n18_0) ∧ w2.cell? ⟨k3, 1, none⟩ = some (.int .i64 n18_1) ∧ w2.cell? ⟨k3, 2, none⟩ = some (.int .i64 n18_2)) ∧
  Calls Tryz.prog 107 #[.agg #[.int .i64 n18_0, .int .i64 n18_1, .int .i64 n18_2], .int .i64 n1] w2 fun e_1 w3 => ∃ n20_0 : Int, ∃ n20_1 : Int, e_1 = .returned (.tuple #[.int .i64 n20_0, .int .i64 n20_1]) ∧
  ∃ n28 : Int, w3.cell? ⟨k3, 0, none⟩ = some (.int .i64 n28) ∧
  n28 ≠ 0 ∧
  R (.int .i64 (Int.tmod (IntKind.i64.wrap ((IntKind.i64.wrap (n20_1 + 1)) + n2)) n28)) w3)
theorem revetmentref07_Column_eq (n0_0 : Int) (n0_1 : Int) (n0_2 : Int) (n1 : Int) (n2 : Int) (w : World) (R : Value → World → Prop) : revetmentref07_Column n0_0 n0_1 n0_2 n1 n2 w R = fnP Tryz.prog Tryz.f67 .o [.agg #[.int .i64 n0_0, .int .i64 n0_1, .int .i64 n0_2], .int .i64 n1, .int .i64 n2] w R := by kernel_rfl
theorem revetmentref07_Column_calls {n0_0 : Int} {n0_1 : Int} {n0_2 : Int} {n1 : Int} {n2 : Int} {w : World} {R : Value → World → Prop} (h : revetmentref07_Column n0_0 n0_1 n0_2 n1 n2 w R) : Calls Tryz.prog 67 #[.agg #[.int .i64 n0_0, .int .i64 n0_1, .int .i64 n0_2], .int .i64 n1, .int .i64 n2] w fun e w1 => ∃ v, e = .returned v ∧ R v w1 := fnP_calls callable Tryz.func67 (revetmentref07_Column_eq n0_0 n0_1 n0_2 n1 n2 w R ▸ h)

/-- revetment/revetmentref07.Check -/
def revetmentref07_Check (n0_0 : Int) (n0_1 : Int) (n0_2 : Int) (w : World) (R : Value → World → Prop) : Prop :=
  Alloc #[.int .i64 n0_0, .int .i64 n0_1, .int .i64 n0_2] 25 w fun k1 w1 =>
  ∃ n4 : Int, w1.cell? ⟨k1, 0, none⟩ = some (.int .i64 n4) ∧
  ((decide (n4 < 4)) = true →
  R (.int .i64 1) w1) ∧
  ((decide (n4 < 4)) = false →
  ∃ n8 : Int, w1.cell? ⟨k1, 0, none⟩ = some (.int .i64 n8) ∧
  ((decide (n8 > 10)) = true →
  R (.int .i64 1) w1) ∧
  ((decide (n8 > 10)) = false →
  ∃ n13 : Int, w1.cell? ⟨k1, 1, none⟩ = some (.int .i64 n13) ∧
  ((decide (n13 < 1)) = true →
  R (.int .i64 1) w1) ∧
  ((decide (n13 < 1)) = false →
  ∃ n18 : Int, w1.cell? ⟨k1, 1, none⟩ = some (.int .i64 n18) ∧
  ((decide (n18 > 4)) = true →
  R (.int .i64 1) w1) ∧
  ((decide (n18 > 4)) = false →
  ∃ n23 : Int, w1.cell? ⟨k1, 2, none⟩ = some (.int .i64 n23) ∧
  ((decide (n23 < 1)) = true →
  R (.int .i64 1) w1) ∧
  ((decide (n23 < 1)) = false →
  ∃ n28 : Int, w1.cell? ⟨k1, 2, none⟩ = some (.int .i64 n28) ∧
  ((decide (n28 > 256)) = true →
  R (.int .i64 1) w1) ∧
  ((decide (n28 > 256)) = false →
  R (.int .i64 0) w1))))))
theorem revetmentref07_Check_eq (n0_0 : Int) (n0_1 : Int) (n0_2 : Int) (w : World) (R : Value → World → Prop) : revetmentref07_Check n0_0 n0_1 n0_2 w R = fnP Tryz.prog Tryz.f68 .o [.agg #[.int .i64 n0_0, .int .i64 n0_1, .int .i64 n0_2]] w R := by kernel_rfl
theorem revetmentref07_Check_calls {n0_0 : Int} {n0_1 : Int} {n0_2 : Int} {w : World} {R : Value → World → Prop} (h : revetmentref07_Check n0_0 n0_1 n0_2 w R) : Calls Tryz.prog 68 #[.agg #[.int .i64 n0_0, .int .i64 n0_1, .int .i64 n0_2]] w fun e w1 => ∃ v, e = .returned v ∧ R v w1 := fnP_calls callable Tryz.func68 (revetmentref07_Check_eq n0_0 n0_1 n0_2 w R ▸ h)

/-- revetment/revetmentref07.Need -/
def revetmentref07_Need (n0_0 : Int) (n0_1 : Int) (n0_2 : Int) (w : World) (R : Value → World → Prop) : Prop :=
  Alloc #[.int .i64 n0_0, .int .i64 n0_1, .int .i64 n0_2] 25 w fun k1 w1 =>
  ∃ n3_0 : Int, ∃ n3_1 : Int, ∃ n3_2 : Int, (w1.cell? ⟨k1, 0, none⟩ = some (.int .i64 n3_0) ∧ w1.cell? ⟨k1, 1, none⟩ = some (.int .i64 n3_1) ∧ w1.cell? ⟨k1, 2, none⟩ = some (.int .i64 n3_2)) ∧
  Calls Tryz.prog 68 #[.agg #[.int .i64 n3_0, .int .i64 n3_1, .int .i64 n3_2]] w1 fun e w2 => ∃ n4 : Int, e = .returned (.int .i64 n4) ∧
  ((n4 != 0) = true →
  R (.int .i64 0) w2) ∧
  ((n4 != 0) = false →
  ∃ n7 : Int, w2.cell? ⟨k1, 2, none⟩ = some (.int .i64 n7) ∧
  ∃ n9 : Int, w2.cell? ⟨k1, 1, none⟩ = some (.int .i64 n9) ∧
  R (.int .i64 (IntKind.i64.wrap (4 + (IntKind.i64.wrap (n7 * n9))))) w2)
theorem revetmentref07_Need_eq (n0_0 : Int) (n0_1 : Int) (n0_2 : Int) (w : World) (R : Value → World → Prop) : revetmentref07_Need n0_0 n0_1 n0_2 w R = fnP Tryz.prog Tryz.f69 .o [.agg #[.int .i64 n0_0, .int .i64 n0_1, .int .i64 n0_2]] w R := by kernel_rfl
theorem revetmentref07_Need_calls {n0_0 : Int} {n0_1 : Int} {n0_2 : Int} {w : World} {R : Value → World → Prop} (h : revetmentref07_Need n0_0 n0_1 n0_2 w R) : Calls Tryz.prog 69 #[.agg #[.int .i64 n0_0, .int .i64 n0_1, .int .i64 n0_2]] w fun e w1 => ∃ v, e = .returned v ∧ R v w1 := fnP_calls callable Tryz.func69 (revetmentref07_Need_eq n0_0 n0_1 n0_2 w R ▸ h)

/-- revetment/revetmentref01.Mul -/
def revetmentref01_Mul (n0 : Int) (n1 : Int) (w : World) (R : Value → World → Prop) : Prop :=
  LoopP (fun I => I [.int .i64 0, .int .i64 (IntKind.i64.wrap n0), .int .i64 0] w) fun K vs w1 => ∃ n5 : Int, ∃ n6 : Int, ∃ n7 : Int, vs = [.int .i64 n5, .int .i64 n6, .int .i64 n7] ∧
  ((decide (n7 < 8)) = true →
  Join (fun vs_1 w2 => ∃ n5_1 : Int, vs_1 = [.int .i64 n5_1] ∧
  ((decide ((IntKind.i64.wrap (n6 * 2 ^ 1)) ≥ 256)) = true →
  K [.int .i64 n5_1, .int .i64 (bits2 .xor .i64 (IntKind.i64.wrap (n6 * 2 ^ 1)) 285), .int .i64 (IntKind.i64.wrap (n7 + 1))] w2) ∧
  ((decide ((IntKind.i64.wrap (n6 * 2 ^ 1)) ≥ 256)) = false →
  K [.int .i64 n5_1, .int .i64 (IntKind.i64.wrap (n6 * 2 ^ 1)), .int .i64 (IntKind.i64.wrap (n7 + 1))] w2)) fun J =>
  (0 : Int) ≤ n7 ∧
  (((bits2 .and .i64 (Int.fdiv (IntKind.i64.wrap n1) (2 ^ (min n7.toNat 64))) 1) == 1) = true →
  J [.int .i64 (bits2 .xor .i64 n5 n6)] w1) ∧
  (((bits2 .and .i64 (Int.fdiv (IntKind.i64.wrap n1) (2 ^ (min n7.toNat 64))) 1) == 1) = false →
  J [.int .i64 n5] w1)) ∧
  ((decide (n7 < 8)) = false →
  R (.int .u8 (IntKind.u8.wrap n5)) w1)
theorem revetmentref01_Mul_eq (n0 : Int) (n1 : Int) (w : World) (R : Value → World → Prop) : revetmentref01_Mul n0 n1 w R = fnP Tryz.prog Tryz.f70 (.s .o (.s .o (.s .o (.s (.s .o (.b (.l [(5, .one (.int .i64)), (6, .one (.int .i64)), (7, .one (.int .i64))] (.s .o (.s (.b (.j [(5, .one (.int .i64))] .o .o)) .o))))) .o)))) [.int .u8 n0, .int .u8 n1] w R := by kernel_rfl
theorem revetmentref01_Mul_calls {n0 : Int} {n1 : Int} {w : World} {R : Value → World → Prop} (h : revetmentref01_Mul n0 n1 w R) : Calls Tryz.prog 70 #[.int .u8 n0, .int .u8 n1] w fun e w1 => ∃ v, e = .returned v ∧ R v w1 := fnP_calls callable Tryz.func70 (revetmentref01_Mul_eq n0 n1 w R ▸ h)

/-- revetment/revetmentref01.Pow -/
def revetmentref01_Pow (n0 : Int) (n1 : Int) (w : World) (R : Value → World → Prop) : Prop :=
  ((n1 == 0) = true →
  R (.int .u8 1) w) ∧
  ((n1 == 0) = false →
  ((n0 == 0) = true →
  R (.int .u8 0) w) ∧
  ((n0 == 0) = false →
  Join (fun vs w1 => ∃ n5 : Int, vs = [.int .i64 n5] ∧
  LoopP (fun I => I [.int .u8 1, .int .i64 0] w1) fun K vs_1 w2 => ∃ n6 : Int, ∃ n7 : Int, vs_1 = [.int .u8 n6, .int .i64 n7] ∧
  ((decide (n7 < n5)) = true →
  Calls Tryz.prog 70 #[.int .u8 n6, .int .u8 n0] w2 fun e w3 => ∃ n25 : Int, e = .returned (.int .u8 n25) ∧
  K [.int .u8 n25, .int .i64 (IntKind.i64.wrap (n7 + 1))] w3) ∧
  ((decide (n7 < n5)) = false →
  R (.int .u8 n6) w2)) fun J =>
  ((decide ((Int.tmod n1 255) < 0)) = true →
  J [.int .i64 (IntKind.i64.wrap ((Int.tmod n1 255) + 255))] w) ∧
  ((decide ((Int.tmod n1 255) < 0)) = false →
  J [.int .i64 (Int.tmod n1 255)] w)))
theorem revetmentref01_Pow_eq (n0 : Int) (n1 : Int) (w : World) (R : Value → World → Prop) : revetmentref01_Pow n0 n1 w R = fnP Tryz.prog Tryz.f71 (.s .o (.s .o (.s .o (.s .o (.j [(5, .one (.int .i64))] .o (.s .o (.s (.s .o (.b (.l [(6, .one (.int .u8)), (7, .one (.int .i64))] .o))) .o))))))) [.int .u8 n0, .int .i64 n1] w R := by kernel_rfl
theorem revetmentref01_Pow_calls {n0 : Int} {n1 : Int} {w : World} {R : Value → World → Prop} (h : revetmentref01_Pow n0 n1 w R) : Calls Tryz.prog 71 #[.int .u8 n0, .int .i64 n1] w fun e w1 => ∃ v, e = .returned v ∧ R v w1 := fnP_calls callable Tryz.func71 (revetmentref01_Pow_eq n0 n1 w R ▸ h)

/-- revetment/revetmentref07.Role -/
def revetmentref07_Role (n0_0 : Int) (n0_1 : Int) (n0_2 : Int) (n1 : Int) (n2 : Int) (w : World) (R : Value → World → Prop) : Prop :=
  Alloc #[.int .i64 n0_0, .int .i64 n0_1, .int .i64 n0_2] 25 w fun k3 w1 =>
  ∃ n10_0 : Int, ∃ n10_1 : Int, ∃ n10_2 : Int, (w1.cell? ⟨k3, 0, none⟩ = some (.int .i64 n10_0) ∧ w1.cell? ⟨k3, 1, none⟩ = some (.int .i64 n10_1) ∧ w1.cell? ⟨k3, 2, none⟩ = some (.int .i64 n10_2)) ∧
  ∃ n14 : Int, w1.cell? ⟨k3, 0, none⟩ = some (.int .i64 n14) ∧
  Calls Tryz.prog 102 #[.agg #[.int .i64 n10_0, .int .i64 n10_1, .int .i64 n10_2], .int .i64 n1, .int .i64 n2, .int .i64 n14] w1 fun e w2 => ∃ b15 : Bool, e = .returned (.bool b15) ∧
  ((!b15) = true →
  R (.int .i64 0) w2) ∧
  ((!b15) = false →
  ∃ n18_0 : Int, ∃ n18_1 : Int, ∃ n18_2 : Int, (w2.cell? ⟨k3, 0, none⟩ = some (.int .i64 n18_0) ∧ w2.cell? ⟨k3, 1, none⟩ = some (.int .i64 n18_1) ∧ w2.cell? ⟨k3, 2, none⟩ = some (.int .i64 n18_2)) ∧
  Calls Tryz.prog 107 #[.agg #[.int .i64 n18_0, .int .i64 n18_1, .int .i64 n18_2], .int .i64 n1] w2 fun e_1 w3 => ∃ n20_0 : Int, ∃ n20_1 : Int, e_1 = .returned (.tuple #[.int .i64 n20_0, .int .i64 n20_1]) ∧
  ((n2 == n20_0) = true →
  ∃ n27 : Int, w3.cell? ⟨k3, 0, none⟩ = some (.int .i64 n27) ∧
  R (.int .i64 (IntKind.i64.wrap (n27 - 2))) w3) ∧
  ((n2 == n20_0) = false →
  ((n2 == n20_1) = true →
  ∃ n33 : Int, w3.cell? ⟨k3, 0, none⟩ = some (.int .i64 n33) ∧
  R (.int .i64 (IntKind.i64.wrap (n33 - 1))) w3) ∧
  ((n2 == n20_1) = false →
  LoopP (fun I => I [.int .i64 0] w3) fun K vs w4 => ∃ n9 : Int, vs = [.int .i64 n9] ∧
  ∃ n35_0 : Int, ∃ n35_1 : Int, ∃ n35_2 : Int, (w4.cell? ⟨k3, 0, none⟩ = some (.int .i64 n35_0) ∧ w4.cell? ⟨k3, 1, none⟩ = some (.int .i64 n35_1) ∧ w4.cell? ⟨k3, 2, none⟩ = some (.int .i64 n35_2)) ∧
  Calls Tryz.prog 67 #[.agg #[.int .i64 n35_0, .int .i64 n35_1, .int .i64 n35_2], .int .i64 n1, .int .i64 n9] w4 fun e_2 w5 => ∃ n38 : Int, e_2 = .returned (.int .i64 n38) ∧
  ((n38 != n2) = true →
  K [.int .i64 (IntKind.i64.wrap (n9 + 1))] w5) ∧
  ((n38 != n2) = false →
  R (.int .i64 n9) w5))))
theorem revetmentref07_Role_eq (n0_0 : Int) (n0_1 : Int) (n0_2 : Int) (n1 : Int) (n2 : Int) (w : World) (R : Value → World → Prop) : revetmentref07_Role n0_0 n0_1 n0_2 n1 n2 w R = fnP Tryz.prog Tryz.f101 (.s .o (.s .o (.s .o (.s .o (.s .o (.s .o (.s (.b (.l [(9, .one (.int .i64))] .o)) .o))))))) [.agg #[.int .i64 n0_0, .int .i64 n0_1, .int .i64 n0_2], .int .i64 n1, .int .i64 n2] w R := by kernel_rfl
theorem revetmentref07_Role_calls {n0_0 : Int} {n0_1 : Int} {n0_2 : Int} {n1 : Int} {n2 : Int} {w : World} {R : Value → World → Prop} (h : revetmentref07_Role n0_0 n0_1 n0_2 n1 n2 w R) : Calls Tryz.prog 101 #[.agg #[.int .i64 n0_0, .int .i64 n0_1, .int .i64 n0_2], .int .i64 n1, .int .i64 n2] w fun e w1 => ∃ v, e = .returned v ∧ R v w1 := fnP_calls callable Tryz.func101 (revetmentref07_Role_eq n0_0 n0_1 n0_2 n1 n2 w R ▸ h)

/-- revetment/revetmentref07.right -/
def revetmentref07_right (n0_0 : Int) (n0_1 : Int) (n0_2 : Int) (n1 : Int) (n2 : Int) (n3 : Int) (w : World) (R : Value → World → Prop) : Prop :=
  Alloc #[.int .i64 n0_0, .int .i64 n0_1, .int .i64 n0_2] 25 w fun k4 w1 =>
  ∃ n9_0 : Int, ∃ n9_1 : Int, ∃ n9_2 : Int, (w1.cell? ⟨k4, 0, none⟩ = some (.int .i64 n9_0) ∧ w1.cell? ⟨k4, 1, none⟩ = some (.int .i64 n9_1) ∧ w1.cell? ⟨k4, 2, none⟩ = some (.int .i64 n9_2)) ∧
  Calls Tryz.prog 68 #[.agg #[.int .i64 n9_0, .int .i64 n9_1, .int .i64 n9_2]] w1 fun e w2 => ∃ n10 : Int, e = .returned (.int .i64 n10) ∧
  ((n10 == 0) = true →
  ((decide (n1 ≥ 0)) = true →
  ∃ n19 : Int, w2.cell? ⟨k4, 2, none⟩ = some (.int .i64 n19) ∧
  ((decide (n1 < n19)) = true →
  ((decide (n2 ≥ 0)) = true →
  R (.bool (decide (n2 < n3))) w2) ∧
  ((decide (n2 ≥ 0)) = false →
  R (.bool false) w2)) ∧
  ((decide (n1 < n19)) = false →
  R (.bool false) w2)) ∧
  ((decide (n1 ≥ 0)) = false →
  R (.bool false) w2)) ∧
  ((n10 == 0) = false →
  R (.bool false) w2)
theorem revetmentref07_right_eq (n0_0 : Int) (n0_1 : Int) (n0_2 : Int) (n1 : Int) (n2 : Int) (n3 : Int) (w : World) (R : Value → World → Prop) : revetmentref07_right n0_0 n0_1 n0_2 n1 n2 n3 w R = fnP Tryz.prog Tryz.f102 .o [.agg #[.int .i64 n0_0, .int .i64 n0_1, .int .i64 n0_2], .int .i64 n1, .int .i64 n2, .int .i64 n3] w R := by kernel_rfl
theorem revetmentref07_right_calls {n0_0 : Int} {n0_1 : Int} {n0_2 : Int} {n1 : Int} {n2 : Int} {n3 : Int} {w : World} {R : Value → World → Prop} (h : revetmentref07_right n0_0 n0_1 n0_2 n1 n2 n3 w R) : Calls Tryz.prog 102 #[.agg #[.int .i64 n0_0, .int .i64 n0_1, .int .i64 n0_2], .int .i64 n1, .int .i64 n2, .int .i64 n3] w fun e w1 => ∃ v, e = .returned v ∧ R v w1 := fnP_calls callable Tryz.func102 (revetmentref07_right_eq n0_0 n0_1 n0_2 n1 n2 n3 w R ▸ h)

/-- revetment/revetmentref06.May -/
def revetmentref06_May (p0 : Option Addr) (l0 c0 : Nat) (p1 : Option Addr) (l1 c1 : Nat) (w : World) (R : Value → World → Prop) : Prop :=
  ((decide ((l0 : Int) < 4)) = true →
  R (.int .i64 1) w) ∧
  ((decide ((l0 : Int) < 4)) = false →
  ((decide ((l0 : Int) > 10)) = true →
  R (.int .i64 1) w) ∧
  ((decide ((l0 : Int) > 10)) = false →
  LoopP (fun I => I [.int .i64 0] w) fun K vs w1 => ∃ n5 : Int, vs = [.int .i64 n5] ∧
  ((decide (n5 < (l1 : Int))) = true →
  ∃ D : World → Prop, D w1.drew ∧
  ∃ a23 : Addr, p1 = some a23 ∧ (0 : Int) ≤ n5 ∧ n5 < (l1 : Int) ∧
  ∃ n24 : Int, (∀ w, D w → w.cell? (Addr.add a23 (n5.toNat * 1)) = some (.int .i64 n24)) ∧
  ((decide (n24 < 0)) = true →
  R (.int .i64 1) w1.drew) ∧
  ((decide (n24 < 0)) = false →
  ∃ a29 : Addr, p1 = some a29 ∧ (0 : Int) ≤ n5 ∧ n5 < (l1 : Int) ∧
  ∃ n30 : Int, (∀ w, D w → w.cell? (Addr.add a29 (n5.toNat * 1)) = some (.int .i64 n30)) ∧
  ((decide (n30 ≥ (l0 : Int))) = true →
  R (.int .i64 1) w1.drew) ∧
  ((decide (n30 ≥ (l0 : Int))) = false →
  ∃ (p38 : Option Addr) (l38 c38 : Nat), (∀ w, D w → (Instr.sliceAt 28 (.slice p1 l1 c1) none (some (.int .i64 n5)) none).run Tryz.prog w = .ok (.slice p38 l38 c38) w) ∧
  ∃ a41 : Addr, p1 = some a41 ∧ (0 : Int) ≤ n5 ∧ n5 < (l1 : Int) ∧
  ∃ n42 : Int, (∀ w, D w → w.cell? (Addr.add a41 (n5.toNat * 1)) = some (.int .i64 n42)) ∧
  Calls Tryz.prog 131 #[.slice p38 l38 c38, .int .i64 n42] w1.drew fun e w2 => ∃ b43 : Bool, e = .returned (.bool b43) ∧
  D w2 ∧
  (b43 = true →
  R (.int .i64 1) w2) ∧
  (b43 = false →
  K [.int .i64 (IntKind.i64.wrap (n5 + 1))] w2)))) ∧
  ((decide (n5 < (l1 : Int))) = false →
  Calls Tryz.prog 104 #[.slice p0 l0 c0, .slice p1 l1 c1] w1 fun e_1 w3 => ∃ n47 : Int, e_1 = .returned (.int .i64 n47) ∧
  Join (fun vs_1 w4 => vs_1 = [] ∧
  ((decide ((l1 : Int) > 2)) = true →
  R (.int .i64 60) w4) ∧
  ((decide ((l1 : Int) > 2)) = false →
  R (.int .i64 0) w4)) fun J =>
  ((decide ((l1 : Int) < (l0 : Int))) = true →
  ((decide (n47 < 0)) = true →
  R (.int .i64 1) w3) ∧
  ((decide (n47 < 0)) = false →
  ((decide (n47 > 4096)) = true →
  R (.int .i64 1) w3) ∧
  ((decide (n47 > 4096)) = false →
  J [] w3))) ∧
  ((decide ((l1 : Int) < (l0 : Int))) = false →
  J [] w3))))
theorem revetmentref06_May_eq (p0 : Option Addr) (l0 c0 : Nat) (p1 : Option Addr) (l1 c1 : Nat) (w : World) (R : Value → World → Prop) : revetmentref06_May p0 l0 c0 p1 l1 c1 w R = fnP Tryz.prog Tryz.f103 (.s .o (.s .o (.s (.s .o (.b (.l [(5, .one (.int .i64))] .o))) (.s .o (.j [] .o .o))))) [.slice p0 l0 c0, .slice p1 l1 c1] w R := by kernel_rfl
theorem revetmentref06_May_calls {p0 : Option Addr} {l0 c0 : Nat} {p1 : Option Addr} {l1 c1 : Nat} {w : World} {R : Value → World → Prop} (h : revetmentref06_May p0 l0 c0 p1 l1 c1 w R) : Calls Tryz.prog 103 #[.slice p0 l0 c0, .slice p1 l1 c1] w fun e w1 => ∃ v, e = .returned v ∧ R v w1 := fnP_calls callable Tryz.func103 (revetmentref06_May_eq p0 l0 c0 p1 l1 c1 w R ▸ h)

/-- revetment/revetmentref06.size -/
def revetmentref06_size (p0 : Option Addr) (l0 c0 : Nat) (p1 : Option Addr) (l1 c1 : Nat) (w : World) (R : Value → World → Prop) : Prop :=
  LoopP (fun I => I [.int .i64 (-1), .int .i64 0] w) fun K vs w1 => ∃ n5 : Int, ∃ n6 : Int, vs = [.int .i64 n5, .int .i64 n6] ∧
  ((decide (n6 < (l0 : Int))) = true →
  Calls Tryz.prog 131 #[.slice p1 l1 c1, .int .i64 n6] w1 fun e w2 => ∃ b15 : Bool, e = .returned (.bool b15) ∧
  (b15 = true →
  K [.int .i64 n5, .int .i64 (IntKind.i64.wrap (n6 + 1))] w2) ∧
  (b15 = false →
  Join (fun vs_1 w3 => vs_1 = [] ∧
  ∃ a29 : Addr, p0 = some a29 ∧ (0 : Int) ≤ n6 ∧ n6 < (l0 : Int) ∧
  ∃ s30 : ByteArray, w3.cell? (Addr.add a29 (n6.toNat * 1)) = some (.string s30) ∧
  K [.int .i64 (s30.size : Int), .int .i64 (IntKind.i64.wrap (n6 + 1))] w3) fun J =>
  ((decide (n5 ≥ 0)) = true →
  ∃ a21 : Addr, p0 = some a21 ∧ (0 : Int) ≤ n6 ∧ n6 < (l0 : Int) ∧
  ∃ s22 : ByteArray, w2.cell? (Addr.add a21 (n6.toNat * 1)) = some (.string s22) ∧
  (((s22.size : Int) != n5) = true →
  R (.int .i64 (-1)) w2) ∧
  (((s22.size : Int) != n5) = false →
  J [] w2)) ∧
  ((decide (n5 ≥ 0)) = false →
  J [] w2))) ∧
  ((decide (n6 < (l0 : Int))) = false →
  R (.int .i64 n5) w1)
theorem revetmentref06_size_eq (p0 : Option Addr) (l0 c0 : Nat) (p1 : Option Addr) (l1 c1 : Nat) (w : World) (R : Value → World → Prop) : revetmentref06_size p0 l0 c0 p1 l1 c1 w R = fnP Tryz.prog Tryz.f104 (.s .o (.s .o (.s (.s .o (.b (.l [(5, .one (.int .i64)), (6, .one (.int .i64))] (.s .o (.s (.b (.s .o (.j [] .o .o))) .o))))) .o))) [.slice p0 l0 c0, .slice p1 l1 c1] w R := by kernel_rfl
theorem revetmentref06_size_calls {p0 : Option Addr} {l0 c0 : Nat} {p1 : Option Addr} {l1 c1 : Nat} {w : World} {R : Value → World → Prop} (h : revetmentref06_size p0 l0 c0 p1 l1 c1 w R) : Calls Tryz.prog 104 #[.slice p0 l0 c0, .slice p1 l1 c1] w fun e w1 => ∃ v, e = .returned v ∧ R v w1 := fnP_calls callable Tryz.func104 (revetmentref06_size_eq p0 l0 c0 p1 l1 c1 w R ▸ h)

/-- revetment/revetmentref06.one -/
def revetmentref06_one (p0 : Option Addr) (l0 c0 : Nat) (p1 : Option Addr) (l1 c1 : Nat) (w : World) (R : Value → World → Prop) : Prop :=
  Calls Tryz.prog 132 #[.slice p0 l0 c0] w fun e w1 => ∃ n18_0 : Int, ∃ n18_1 : Int, e = .returned (.tuple #[.int .u8 n18_0, .int .u8 n18_1]) ∧
  Alloc #[] 3 w1 fun k21 w2 =>
  LoopP (fun I => I [.slice (some ⟨k21, 0, none⟩) 0 0, .int .i64 0] w2) fun K vs w3 => ∃ (p8 : Option Addr) (l8 c8 : Nat), ∃ n9 : Int, vs = [.slice p8 l8 c8, .int .i64 n9] ∧
  ((decide (n9 < (l1 : Int))) = true →
  ∃ a30 : Addr, p1 = some a30 ∧ (0 : Int) ≤ n9 ∧ n9 < (l1 : Int) ∧
  ∃ n31 : Int, w3.cell? (Addr.add a30 (n9.toNat * 1)) = some (.int .i64 n31) ∧
  ((decide (n31 < (IntKind.i64.wrap ((l0 : Int) - 2)))) = true →
  ∃ a37 : Addr, p1 = some a37 ∧ (0 : Int) ≤ n9 ∧ n9 < (l1 : Int) ∧
  ∃ n38 : Int, w3.cell? (Addr.add a37 (n9.toNat * 1)) = some (.int .i64 n38) ∧
  Alloc #[.int .i64 n38] 3 w3 fun k39 w4 =>
  ∃ (p40 : Option Addr) (l40 c40 : Nat), ∃ w5, (builtin .append #[28, 28] 28 #[false, false] #[.slice p8 l8 c8, .slice (some ⟨k39, 0, none⟩) 1 1]).run Tryz.prog w4 = .ok (.value (.slice p40 l40 c40)) w5 ∧
  K [.slice p40 l40 c40, .int .i64 (IntKind.i64.wrap (n9 + 1))] w5) ∧
  ((decide (n31 < (IntKind.i64.wrap ((l0 : Int) - 2)))) = false →
  K [.slice p8 l8 c8, .int .i64 (IntKind.i64.wrap (n9 + 1))] w3)) ∧
  ((decide (n9 < (l1 : Int))) = false →
  Join (fun vs_1 w6 => vs_1 = [] ∧
  Calls Tryz.prog 132 #[.slice p0 l0 c0] w6 fun e_1 w7 => ∃ n124_0 : Int, ∃ n124_1 : Int, e_1 = .returned (.tuple #[.int .u8 n124_0, .int .u8 n124_1]) ∧
  Join (fun vs_2 w8 => vs_2 = [] ∧
  Calls Tryz.prog 131 #[.slice p1 l1 c1, .int .i64 (IntKind.i64.wrap ((IntKind.i64.wrap ((l0 : Int) - 2)) + 1))] w8 fun e_2 w9 => ∃ b142 : Bool, e_2 = .returned (.bool b142) ∧
  (b142 = true →
  ∃ a149 : Addr, p0 = some a149 ∧ (0 : Int) ≤ IntKind.i64.wrap ((IntKind.i64.wrap ((l0 : Int) - 2)) + 1) ∧ (IntKind.i64.wrap ((IntKind.i64.wrap ((l0 : Int) - 2)) + 1)) < (l0 : Int) ∧
  ∃ n150 : Int, w9.cell? (Addr.add a149 ((IntKind.i64.wrap ((IntKind.i64.wrap ((l0 : Int) - 2)) + 1)).toNat * 1)) = some (.int .u8 n150) ∧
  ∃ a153 : Addr, p0 = some a153 ∧ (0 : Int) ≤ IntKind.i64.wrap ((IntKind.i64.wrap ((l0 : Int) - 2)) + 1) ∧ (IntKind.i64.wrap ((IntKind.i64.wrap ((l0 : Int) - 2)) + 1)) < (l0 : Int) ∧
  St (Addr.add a153 ((IntKind.i64.wrap ((IntKind.i64.wrap ((l0 : Int) - 2)) + 1)).toNat * 1)) (.int .u8 (bits2 .xor .u8 n150 n124_1)) w9 fun w10 =>
  R (.slice p0 l0 c0) w10) ∧
  (b142 = false →
  R (.slice p0 l0 c0) w9)) fun J_1 =>
  Calls Tryz.prog 131 #[.slice p1 l1 c1, .int .i64 (IntKind.i64.wrap ((l0 : Int) - 2))] w7 fun e_3 w11 => ∃ b129 : Bool, e_3 = .returned (.bool b129) ∧
  (b129 = true →
  ∃ a134 : Addr, p0 = some a134 ∧ (0 : Int) ≤ IntKind.i64.wrap ((l0 : Int) - 2) ∧ (IntKind.i64.wrap ((l0 : Int) - 2)) < (l0 : Int) ∧
  ∃ n135 : Int, w11.cell? (Addr.add a134 ((IntKind.i64.wrap ((l0 : Int) - 2)).toNat * 1)) = some (.int .u8 n135) ∧
  ∃ a138 : Addr, p0 = some a138 ∧ (0 : Int) ≤ IntKind.i64.wrap ((l0 : Int) - 2) ∧ (IntKind.i64.wrap ((l0 : Int) - 2)) < (l0 : Int) ∧
  St (Addr.add a138 ((IntKind.i64.wrap ((l0 : Int) - 2)).toNat * 1)) (.int .u8 (bits2 .xor .u8 n135 n124_0)) w11 fun w12 =>
  J_1 [] w12) ∧
  (b129 = false →
  J_1 [] w11)) fun J =>
  (((l8 : Int) == 1) = true →
  Calls Tryz.prog 131 #[.slice p1 l1 c1, .int .i64 (IntKind.i64.wrap ((l0 : Int) - 2))] w3 fun e_4 w13 => ∃ b48 : Bool, e_4 = .returned (.bool b48) ∧
  ((!b48) = true →
  ∃ a53 : Addr, p8 = some a53 ∧ (0 : Int) ≤ 0 ∧ 0 < (l8 : Int) ∧
  ∃ n54 : Int, w13.cell? a53 = some (.int .i64 n54) ∧
  ∃ a56 : Addr, p0 = some a56 ∧ (0 : Int) ≤ n54 ∧ n54 < (l0 : Int) ∧
  St (Addr.add a56 (n54.toNat * 1)) (.int .u8 n18_0) w13 fun w14 =>
  J [] w14) ∧
  ((!b48) = false →
  (((l8 : Int) == 1) = true →
  LoopP (fun I_1 => I_1 [.int .i64 0] w13) fun K_1 vs_3 w15 => ∃ n10 : Int, vs_3 = [.int .i64 n10] ∧
  ((decide (n10 < 256)) = true →
  ∃ a68 : Addr, p8 = some a68 ∧ (0 : Int) ≤ 0 ∧ 0 < (l8 : Int) ∧
  ∃ n69 : Int, w15.cell? a68 = some (.int .i64 n69) ∧
  Calls Tryz.prog 37 #[.int .i64 n69] w15 fun e_5 w16 => ∃ n70 : Int, e_5 = .returned (.int .u8 n70) ∧
  Calls Tryz.prog 70 #[.int .u8 (IntKind.u8.wrap n10), .int .u8 n70] w16 fun e_6 w17 => ∃ n71 : Int, e_6 = .returned (.int .u8 n71) ∧
  ((n71 == n18_1) = true →
  ∃ a76 : Addr, p8 = some a76 ∧ (0 : Int) ≤ 0 ∧ 0 < (l8 : Int) ∧
  ∃ n77 : Int, w17.cell? a76 = some (.int .i64 n77) ∧
  ∃ a80 : Addr, p0 = some a80 ∧ (0 : Int) ≤ n77 ∧ n77 < (l0 : Int) ∧
  St (Addr.add a80 (n77.toNat * 1)) (.int .u8 (IntKind.u8.wrap n10)) w17 fun w18 =>
  K_1 [.int .i64 (IntKind.i64.wrap (n10 + 1))] w18) ∧
  ((n71 == n18_1) = false →
  K_1 [.int .i64 (IntKind.i64.wrap (n10 + 1))] w17)) ∧
  ((decide (n10 < 256)) = false →
  J [] w15)) ∧
  (((l8 : Int) == 1) = false →
  (((l8 : Int) == 2) = true →
  LoopP (fun I_2 => I_2 [.int .i64 0] w13) fun K_2 vs_4 w19 => ∃ n11 : Int, vs_4 = [.int .i64 n11] ∧
  ((decide (n11 < 256)) = true →
  ∃ D : World → Prop, D w19.drew ∧
  ∃ a96 : Addr, p8 = some a96 ∧ (0 : Int) ≤ 0 ∧ 0 < (l8 : Int) ∧
  ∃ n97 : Int, (∀ w, D w → w.cell? a96 = some (.int .i64 n97)) ∧
  Calls Tryz.prog 37 #[.int .i64 n97] w19.drew fun e_7 w20 => ∃ n98 : Int, e_7 = .returned (.int .u8 n98) ∧
  D w20 ∧
  Calls Tryz.prog 70 #[.int .u8 (IntKind.u8.wrap n11), .int .u8 n98] w20 fun e_8 w21 => ∃ n99 : Int, e_8 = .returned (.int .u8 n99) ∧
  D w21 ∧
  ∃ a102 : Addr, p8 = some a102 ∧ (0 : Int) ≤ 1 ∧ 1 < (l8 : Int) ∧
  ∃ n103 : Int, (∀ w, D w → w.cell? (a102.add 1) = some (.int .i64 n103)) ∧
  Calls Tryz.prog 37 #[.int .i64 n103] w21 fun e_9 w22 => ∃ n104 : Int, e_9 = .returned (.int .u8 n104) ∧
  D w22 ∧
  Calls Tryz.prog 70 #[.int .u8 (bits2 .xor .u8 (IntKind.u8.wrap n11) n18_0), .int .u8 n104] w22 fun e_10 w23 => ∃ n105 : Int, e_10 = .returned (.int .u8 n105) ∧
  D w23 ∧
  (((bits2 .xor .u8 n99 n105) == n18_1) = true →
  ∃ a111 : Addr, p8 = some a111 ∧ (0 : Int) ≤ 0 ∧ 0 < (l8 : Int) ∧
  ∃ n112 : Int, w23.cell? a111 = some (.int .i64 n112) ∧
  ∃ a115 : Addr, p0 = some a115 ∧ (0 : Int) ≤ n112 ∧ n112 < (l0 : Int) ∧
  St (Addr.add a115 (n112.toNat * 1)) (.int .u8 (IntKind.u8.wrap n11)) w23 fun w24 =>
  ∃ a118 : Addr, p8 = some a118 ∧ (0 : Int) ≤ 1 ∧ 1 < (l8 : Int) ∧
  ∃ n119 : Int, w24.cell? (a118.add 1) = some (.int .i64 n119) ∧
  ∃ a121 : Addr, p0 = some a121 ∧ (0 : Int) ≤ n119 ∧ n119 < (l0 : Int) ∧
  St (Addr.add a121 (n119.toNat * 1)) (.int .u8 (bits2 .xor .u8 (IntKind.u8.wrap n11) n18_0)) w24 fun w25 =>
  K_2 [.int .i64 (IntKind.i64.wrap (n11 + 1))] w25) ∧
  (((bits2 .xor .u8 n99 n105) == n18_1) = false →
  K_2 [.int .i64 (IntKind.i64.wrap (n11 + 1))] w23)) ∧
  ((decide (n11 < 256)) = false →
  J [] w19)) ∧
  (((l8 : Int) == 2) = false →
  J [] w13)))) ∧
  (((l8 : Int) == 1) = false →
  (((l8 : Int) == 1) = true →
  LoopP (fun I_3 => I_3 [.int .i64 0] w3) fun K_3 vs_5 w26 => ∃ n10_1 : Int, vs_5 = [.int .i64 n10_1] ∧
  ((decide (n10_1 < 256)) = true →
  ∃ a68_1 : Addr, p8 = some a68_1 ∧ (0 : Int) ≤ 0 ∧ 0 < (l8 : Int) ∧
  ∃ n69_1 : Int, w26.cell? a68_1 = some (.int .i64 n69_1) ∧
  Calls Tryz.prog 37 #[.int .i64 n69_1] w26 fun e_11 w27 => ∃ n70_1 : Int, e_11 = .returned (.int .u8 n70_1) ∧
  Calls Tryz.prog 70 #[.int .u8 (IntKind.u8.wrap n10_1), .int .u8 n70_1] w27 fun e_12 w28 => ∃ n71_1 : Int, e_12 = .returned (.int .u8 n71_1) ∧
  ((n71_1 == n18_1) = true →
  ∃ a76_1 : Addr, p8 = some a76_1 ∧ (0 : Int) ≤ 0 ∧ 0 < (l8 : Int) ∧
  ∃ n77_1 : Int, w28.cell? a76_1 = some (.int .i64 n77_1) ∧
  ∃ a80_1 : Addr, p0 = some a80_1 ∧ (0 : Int) ≤ n77_1 ∧ n77_1 < (l0 : Int) ∧
  St (Addr.add a80_1 (n77_1.toNat * 1)) (.int .u8 (IntKind.u8.wrap n10_1)) w28 fun w29 =>
  K_3 [.int .i64 (IntKind.i64.wrap (n10_1 + 1))] w29) ∧
  ((n71_1 == n18_1) = false →
  K_3 [.int .i64 (IntKind.i64.wrap (n10_1 + 1))] w28)) ∧
  ((decide (n10_1 < 256)) = false →
  J [] w26)) ∧
  (((l8 : Int) == 1) = false →
  (((l8 : Int) == 2) = true →
  LoopP (fun I_4 => I_4 [.int .i64 0] w3) fun K_4 vs_6 w30 => ∃ n11_1 : Int, vs_6 = [.int .i64 n11_1] ∧
  ((decide (n11_1 < 256)) = true →
  ∃ D_1 : World → Prop, D_1 w30.drew ∧
  ∃ a96_1 : Addr, p8 = some a96_1 ∧ (0 : Int) ≤ 0 ∧ 0 < (l8 : Int) ∧
  ∃ n97_1 : Int, (∀ w, D_1 w → w.cell? a96_1 = some (.int .i64 n97_1)) ∧
  Calls Tryz.prog 37 #[.int .i64 n97_1] w30.drew fun e_13 w31 => ∃ n98_1 : Int, e_13 = .returned (.int .u8 n98_1) ∧
  D_1 w31 ∧
  Calls Tryz.prog 70 #[.int .u8 (IntKind.u8.wrap n11_1), .int .u8 n98_1] w31 fun e_14 w32 => ∃ n99_1 : Int, e_14 = .returned (.int .u8 n99_1) ∧
  D_1 w32 ∧
  ∃ a102_1 : Addr, p8 = some a102_1 ∧ (0 : Int) ≤ 1 ∧ 1 < (l8 : Int) ∧
  ∃ n103_1 : Int, (∀ w, D_1 w → w.cell? (a102_1.add 1) = some (.int .i64 n103_1)) ∧
  Calls Tryz.prog 37 #[.int .i64 n103_1] w32 fun e_15 w33 => ∃ n104_1 : Int, e_15 = .returned (.int .u8 n104_1) ∧
  D_1 w33 ∧
  Calls Tryz.prog 70 #[.int .u8 (bits2 .xor .u8 (IntKind.u8.wrap n11_1) n18_0), .int .u8 n104_1] w33 fun e_16 w34 => ∃ n105_1 : Int, e_16 = .returned (.int .u8 n105_1) ∧
  D_1 w34 ∧
  (((bits2 .xor .u8 n99_1 n105_1) == n18_1) = true →
  ∃ a111_1 : Addr, p8 = some a111_1 ∧ (0 : Int) ≤ 0 ∧ 0 < (l8 : Int) ∧
  ∃ n112_1 : Int, w34.cell? a111_1 = some (.int .i64 n112_1) ∧
  ∃ a115_1 : Addr, p0 = some a115_1 ∧ (0 : Int) ≤ n112_1 ∧ n112_1 < (l0 : Int) ∧
  St (Addr.add a115_1 (n112_1.toNat * 1)) (.int .u8 (IntKind.u8.wrap n11_1)) w34 fun w35 =>
  ∃ a118_1 : Addr, p8 = some a118_1 ∧ (0 : Int) ≤ 1 ∧ 1 < (l8 : Int) ∧
  ∃ n119_1 : Int, w35.cell? (a118_1.add 1) = some (.int .i64 n119_1) ∧
  ∃ a121_1 : Addr, p0 = some a121_1 ∧ (0 : Int) ≤ n119_1 ∧ n119_1 < (l0 : Int) ∧
  St (Addr.add a121_1 (n119_1.toNat * 1)) (.int .u8 (bits2 .xor .u8 (IntKind.u8.wrap n11_1) n18_0)) w35 fun w36 =>
  K_4 [.int .i64 (IntKind.i64.wrap (n11_1 + 1))] w36) ∧
  (((bits2 .xor .u8 n99_1 n105_1) == n18_1) = false →
  K_4 [.int .i64 (IntKind.i64.wrap (n11_1 + 1))] w34)) ∧
  ((decide (n11_1 < 256)) = false →
  J [] w30)) ∧
  (((l8 : Int) == 2) = false →
  J [] w3))))
theorem revetmentref06_one_eq (p0 : Option Addr) (l0 c0 : Nat) (p1 : Option Addr) (l1 c1 : Nat) (w : World) (R : Value → World → Prop) : revetmentref06_one p0 l0 c0 p1 l1 c1 w R = fnP Tryz.prog Tryz.f105 (.s .o (.s .o (.s .o (.s .o (.s (.s .o (.b (.l [(8, .one .slice), (9, .one (.int .i64))] .o))) (.j [] (.b (.s .o (.c .o (.s .o (.c (.s .o (.b (.l [(10, .one (.int .i64))] .o))) (.s .o (.c (.s .o (.b (.l [(11, .one (.int .i64))] .o))) .o))))))) (.s .o (.j [] .o .o)))))))) [.slice p0 l0 c0, .slice p1 l1 c1] w R := by kernel_rfl
theorem revetmentref06_one_calls {p0 : Option Addr} {l0 c0 : Nat} {p1 : Option Addr} {l1 c1 : Nat} {w : World} {R : Value → World → Prop} (h : revetmentref06_one p0 l0 c0 p1 l1 c1 w R) : Calls Tryz.prog 105 #[.slice p0 l0 c0, .slice p1 l1 c1] w fun e w1 => ∃ v, e = .returned v ∧ R v w1 := fnP_calls callable Tryz.func105 (revetmentref06_one_eq p0 l0 c0 p1 l1 c1 w R ▸ h)

/-- revetment/revetmentref06.at -/
def revetmentref06_at (p0 : Option Addr) (l0 c0 : Nat) (p1 : Option Addr) (l1 c1 : Nat) (n2 : Int) (w : World) (R : Value → World → Prop) : Prop :=
  Alloc #[] 5 w fun k10 w1 =>
  LoopP (fun I => I [.slice (some ⟨k10, 0, none⟩) 0 0, .int .i64 0] w1) fun K vs w2 => ∃ (p7 : Option Addr) (l7 c7 : Nat), ∃ n8 : Int, vs = [.slice p7 l7 c7, .int .i64 n8] ∧
  ((decide (n8 < (l0 : Int))) = true →
  Join (fun vs_1 w3 => ∃ n9 : Int, vs_1 = [.int .u8 n9] ∧
  Alloc #[.int .u8 n9] 5 w3 fun k29 w4 =>
  ∃ (p30 : Option Addr) (l30 c30 : Nat), ∃ w5, (builtin .append #[92, 92] 92 #[false, false] #[.slice p7 l7 c7, .slice (some ⟨k29, 0, none⟩) 1 1]).run Tryz.prog w4 = .ok (.value (.slice p30 l30 c30)) w5 ∧
  K [.slice p30 l30 c30, .int .i64 (IntKind.i64.wrap (n8 + 1))] w5) fun J =>
  Calls Tryz.prog 131 #[.slice p1 l1 c1, .int .i64 n8] w2 fun e w6 => ∃ b19 : Bool, e = .returned (.bool b19) ∧
  ((!b19) = true →
  ∃ a23 : Addr, p0 = some a23 ∧ (0 : Int) ≤ n8 ∧ n8 < (l0 : Int) ∧
  ∃ s24 : ByteArray, w6.cell? (Addr.add a23 (n8.toNat * 1)) = some (.string s24) ∧
  ∃ n26 : Int, ∃ w7, (Instr.index 9 (.string s24) (.int .i64 n2)).run Tryz.prog w6 = .ok (.int .u8 n26) w7 ∧
  J [.int .u8 n26] w7) ∧
  ((!b19) = false →
  J [.int .u8 0] w6)) ∧
  ((decide (n8 < (l0 : Int))) = false →
  R (.slice p7 l7 c7) w2)
theorem revetmentref06_at_eq (p0 : Option Addr) (l0 c0 : Nat) (p1 : Option Addr) (l1 c1 : Nat) (n2 : Int) (w : World) (R : Value → World → Prop) : revetmentref06_at p0 l0 c0 p1 l1 c1 n2 w R = fnP Tryz.prog Tryz.f106 (.s .o (.s .o (.s (.s .o (.b (.l [(7, .one .slice), (8, .one (.int .i64))] (.s .o (.s (.b (.s .o (.j [(9, .one (.int .u8))] .o .o))) .o))))) .o))) [.slice p0 l0 c0, .slice p1 l1 c1, .int .i64 n2] w R := by kernel_rfl
theorem revetmentref06_at_calls {p0 : Option Addr} {l0 c0 : Nat} {p1 : Option Addr} {l1 c1 : Nat} {n2 : Int} {w : World} {R : Value → World → Prop} (h : revetmentref06_at p0 l0 c0 p1 l1 c1 n2 w R) : Calls Tryz.prog 106 #[.slice p0 l0 c0, .slice p1 l1 c1, .int .i64 n2] w fun e w1 => ∃ v, e = .returned v ∧ R v w1 := fnP_calls callable Tryz.func106 (revetmentref06_at_eq p0 l0 c0 p1 l1 c1 n2 w R ▸ h)

/-- revetment/revetmentref07.Parity -/
def revetmentref07_Parity (n0_0 : Int) (n0_1 : Int) (n0_2 : Int) (n1 : Int) (w : World) (R : Value → World → Prop) : Prop :=
  Alloc #[.int .i64 n0_0, .int .i64 n0_1, .int .i64 n0_2] 25 w fun k2 w1 =>
  ∃ n7_0 : Int, ∃ n7_1 : Int, ∃ n7_2 : Int, (w1.cell? ⟨k2, 0, none⟩ = some (.int .i64 n7_0) ∧ w1.cell? ⟨k2, 1, none⟩ = some (.int .i64 n7_1) ∧ w1.cell? ⟨k2, 2, none⟩ = some (.int .i64 n7_2)) ∧
  Calls Tryz.prog 102 #[.agg #[.int .i64 n7_0, .int .i64 n7_1, .int .i64 n7_2], .int .i64 n1, .int .i64 0, .int .i64 1] w1 fun e w2 => ∃ b9 : Bool, e = .returned (.bool b9) ∧
  ((!b9) = true →
  R (.tuple #[.int .i64 0, .int .i64 0]) w2) ∧
  ((!b9) = false →
  ∃ D : World → Prop, D w2.drew ∧
  ∃ n12 : Int, (∀ w, D w → w.cell? ⟨k2, 0, none⟩ = some (.int .i64 n12)) ∧
  ∃ n16 : Int, (∀ w, D w → w.cell? ⟨k2, 0, none⟩ = some (.int .i64 n16)) ∧
  n16 ≠ 0 ∧
  ∃ D_1 : World → Prop, D_1 w2.drew.drew ∧
  ∃ n23 : Int, (∀ w, D_1 w → w.cell? ⟨k2, 0, none⟩ = some (.int .i64 n23)) ∧
  n23 ≠ 0 ∧
  R (.tuple #[.int .i64 (IntKind.i64.wrap ((IntKind.i64.wrap (n12 - 1)) - (Int.tmod n1 n16))), .int .i64 (Int.tmod (IntKind.i64.wrap ((IntKind.i64.wrap ((IntKind.i64.wrap (n12 - 1)) - (Int.tmod n1 n16))) + 1)) n23)]) w2.drew.drew)
theorem revetmentref07_Parity_eq (n0_0 : Int) (n0_1 : Int) (n0_2 : Int) (n1 : Int) (w : World) (R : Value → World → Prop) : revetmentref07_Parity n0_0 n0_1 n0_2 n1 w R = fnP Tryz.prog Tryz.f107 .o [.agg #[.int .i64 n0_0, .int .i64 n0_1, .int .i64 n0_2], .int .i64 n1] w R := by kernel_rfl
theorem revetmentref07_Parity_calls {n0_0 : Int} {n0_1 : Int} {n0_2 : Int} {n1 : Int} {w : World} {R : Value → World → Prop} (h : revetmentref07_Parity n0_0 n0_1 n0_2 n1 w R) : Calls Tryz.prog 107 #[.agg #[.int .i64 n0_0, .int .i64 n0_1, .int .i64 n0_2], .int .i64 n1] w fun e w1 => ∃ v, e = .returned v ∧ R v w1 := fnP_calls callable Tryz.func107 (revetmentref07_Parity_eq n0_0 n0_1 n0_2 n1 w R ▸ h)

/-- revetment/revetmentref06.has -/
def revetmentref06_has (p0 : Option Addr) (l0 c0 : Nat) (n1 : Int) (w : World) (R : Value → World → Prop) : Prop :=
  LoopP (fun I => I [.int .i64 0] w) fun K vs w1 => ∃ n5 : Int, vs = [.int .i64 n5] ∧
  ((decide (n5 < (l0 : Int))) = true →
  ∃ a14 : Addr, p0 = some a14 ∧ (0 : Int) ≤ n5 ∧ n5 < (l0 : Int) ∧
  ∃ n15 : Int, w1.cell? (Addr.add a14 (n5.toNat * 1)) = some (.int .i64 n15) ∧
  ((n15 == n1) = true →
  R (.bool true) w1) ∧
  ((n15 == n1) = false →
  K [.int .i64 (IntKind.i64.wrap (n5 + 1))] w1)) ∧
  ((decide (n5 < (l0 : Int))) = false →
  R (.bool false) w1)
theorem revetmentref06_has_eq (p0 : Option Addr) (l0 c0 : Nat) (n1 : Int) (w : World) (R : Value → World → Prop) : revetmentref06_has p0 l0 c0 n1 w R = fnP Tryz.prog Tryz.f131 (.s .o (.s (.s .o (.b (.l [(5, .one (.int .i64))] .o))) .o)) [.slice p0 l0 c0, .int .i64 n1] w R := by kernel_rfl
theorem revetmentref06_has_calls {p0 : Option Addr} {l0 c0 : Nat} {n1 : Int} {w : World} {R : Value → World → Prop} (h : revetmentref06_has p0 l0 c0 n1 w R) : Calls Tryz.prog 131 #[.slice p0 l0 c0, .int .i64 n1] w fun e w1 => ∃ v, e = .returned v ∧ R v w1 := fnP_calls callable Tryz.func131 (revetmentref06_has_eq p0 l0 c0 n1 w R ▸ h)

/-- revetment/revetmentref06.sums -/
def revetmentref06_sums (p0 : Option Addr) (l0 c0 : Nat) (w : World) (R : Value → World → Prop) : Prop :=
  ∃ a13 : Addr, p0 = some a13 ∧ (0 : Int) ≤ IntKind.i64.wrap ((l0 : Int) - 2) ∧ (IntKind.i64.wrap ((l0 : Int) - 2)) < (l0 : Int) ∧
  ∃ n14 : Int, w.cell? (Addr.add a13 ((IntKind.i64.wrap ((l0 : Int) - 2)).toNat * 1)) = some (.int .u8 n14) ∧
  ∃ a18 : Addr, p0 = some a18 ∧ (0 : Int) ≤ IntKind.i64.wrap ((IntKind.i64.wrap ((l0 : Int) - 2)) + 1) ∧ (IntKind.i64.wrap ((IntKind.i64.wrap ((l0 : Int) - 2)) + 1)) < (l0 : Int) ∧
  ∃ n19 : Int, w.cell? (Addr.add a18 ((IntKind.i64.wrap ((IntKind.i64.wrap ((l0 : Int) - 2)) + 1)).toNat * 1)) = some (.int .u8 n19) ∧
  LoopP (fun I => I [.int .u8 n14, .int .u8 n19, .int .i64 0] w) fun K vs w1 => ∃ n5 : Int, ∃ n6 : Int, ∃ n7 : Int, vs = [.int .u8 n5, .int .u8 n6, .int .i64 n7] ∧
  ((decide (n7 < (IntKind.i64.wrap ((l0 : Int) - 2)))) = true →
  ∃ a28 : Addr, p0 = some a28 ∧ (0 : Int) ≤ n7 ∧ n7 < (l0 : Int) ∧
  ∃ n29 : Int, w1.cell? (Addr.add a28 (n7.toNat * 1)) = some (.int .u8 n29) ∧
  ∃ D : World → Prop, D w1.drew ∧
  ∃ a34 : Addr, p0 = some a34 ∧ (0 : Int) ≤ n7 ∧ n7 < (l0 : Int) ∧
  ∃ n35 : Int, (∀ w, D w → w.cell? (Addr.add a34 (n7.toNat * 1)) = some (.int .u8 n35)) ∧
  Calls Tryz.prog 37 #[.int .i64 n7] w1.drew fun e w2 => ∃ n37 : Int, e = .returned (.int .u8 n37) ∧
  D w2 ∧
  Calls Tryz.prog 70 #[.int .u8 n35, .int .u8 n37] w2 fun e_1 w3 => ∃ n38 : Int, e_1 = .returned (.int .u8 n38) ∧
  D w3 ∧
  K [.int .u8 (bits2 .xor .u8 n5 n29), .int .u8 (bits2 .xor .u8 n6 n38), .int .i64 (IntKind.i64.wrap (n7 + 1))] w3) ∧
  ((decide (n7 < (IntKind.i64.wrap ((l0 : Int) - 2)))) = false →
  R (.tuple #[.int .u8 n5, .int .u8 n6]) w1)
theorem revetmentref06_sums_eq (p0 : Option Addr) (l0 c0 : Nat) (w : World) (R : Value → World → Prop) : revetmentref06_sums p0 l0 c0 w R = fnP Tryz.prog Tryz.f132 (.s .o (.s .o (.s .o (.s .o (.s (.s .o (.b (.l [(5, .one (.int .u8)), (6, .one (.int .u8)), (7, .one (.int .i64))] .o))) .o))))) [.slice p0 l0 c0] w R := by kernel_rfl
theorem revetmentref06_sums_calls {p0 : Option Addr} {l0 c0 : Nat} {w : World} {R : Value → World → Prop} (h : revetmentref06_sums p0 l0 c0 w R) : Calls Tryz.prog 132 #[.slice p0 l0 c0] w fun e w1 => ∃ v, e = .returned v ∧ R v w1 := fnP_calls callable Tryz.func132 (revetmentref06_sums_eq p0 l0 c0 w R ▸ h)

end Go.Proofs.YtedbbdeeofdepaaGreat
