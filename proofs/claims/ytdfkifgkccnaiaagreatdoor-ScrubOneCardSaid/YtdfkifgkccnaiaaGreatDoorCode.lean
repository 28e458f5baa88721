import Derived.Test.YtdfkifgkccnaiaaGreatDoorBase
/-! The formulas of Go functions, printed by a program of this session (shprint.py), each tied to the loaded function by the kernel. -/
namespace Go.Proofs.YtdfkifgkccnaiaaGreatDoor
open Go.Sh
set_option linter.unusedVariables false
set_option maxRecDepth 100000
/-- revetment/revetmentlaw18.ScrubOne -/
def revetmentlaw18_ScrubOne (p0 : Option Addr) (l0 c0 : Nat) (n1 : Int) (n2 : Int) (s3 : ByteArray) (w : World) (R : Value → World → Prop) : Prop :=
  Calls Tryz.prog 8 #[.slice p0 l0 c0] w fun e w1 => ∃ b18 : Bool, e = .returned (.bool b18) ∧
  (b18 = true →
  Calls Tryz.prog 9 #[] w1 fun e_1 w2 => ∃ b28 : Bool, e_1 = .returned (.bool b28) ∧
  R (.bool b28) w2) ∧
  (b18 = false →
  ((decide ((s3.size : Int) > 100)) = true →
  Calls Tryz.prog 9 #[] w1 fun e_2 w3 => ∃ b28_1 : Bool, e_2 = .returned (.bool b28_1) ∧
  R (.bool b28_1) w3) ∧
  ((decide ((s3.size : Int) > 100)) = false →
  Calls Tryz.prog 9 #[] w1 fun e_3 w4 => ∃ b25 : Bool, e_3 = .returned (.bool b25) ∧
  ((!b25) = true →
  Calls Tryz.prog 9 #[] w4 fun e_4 w5 => ∃ b28_2 : Bool, e_4 = .returned (.bool b28_2) ∧
  R (.bool b28_2) w5) ∧
  ((!b25) = false →
  Calls Tryz.prog 11 #[.slice p0 l0 c0, .int .i64 (IntKind.i64.wrap (2 + (Int.tmod (IntKind.i64.wrap n1) 7)))] w4 fun e_5 w6 => ∃ (p36 : Option Addr) (l36 c36 : Nat), e_5 = .returned (.slice p36 l36 c36) ∧
  Calls Tryz.prog 10 #[.slice p36 l36 c36] w6 fun e_6 w7 => ∃ (p37_0 : Option Addr) (l37_0 c37_0 : Nat), ∃ n37_1 : Int, e_6 = .returned (.tuple #[.slice p37_0 l37_0 c37_0, .int .i64 n37_1]) ∧
  ((n37_1 != 0) = true →
  R (.bool false) w7) ∧
  ((n37_1 != 0) = false →
  (((l37_0 : Int) != (IntKind.i64.wrap ((IntKind.i64.wrap (2 + (Int.tmod (IntKind.i64.wrap n1) 7))) + 2))) = true →
  R (.bool false) w7) ∧
  (((l37_0 : Int) != (IntKind.i64.wrap ((IntKind.i64.wrap (2 + (Int.tmod (IntKind.i64.wrap n1) 7))) + 2))) = false →
  (IntKind.i64.wrap ((IntKind.i64.wrap (2 + (Int.tmod (IntKind.i64.wrap n1) 7))) + 2)) ≠ 0 ∧
  Alloc #[] 9 w7 fun k54 w8 =>
  ∃ (p57 : Option Addr) (l57 c57 : Nat), ∃ w9, (builtin .append #[22, 22] 22 #[false, false] #[.slice (some ⟨k54, 0, none⟩) 0 0, .slice p37_0 l37_0 c37_0]).run Tryz.prog w8 = .ok (.value (.slice p57 l57 c57)) w9 ∧
  Alloc #[.string s3] 9 w9 fun k61 w10 =>
  Calls Tryz.prog 11 #[.slice (some ⟨k61, 0, none⟩) 1 1, .int .i64 1] w10 fun e_7 w11 => ∃ (p62 : Option Addr) (l62 c62 : Nat), e_7 = .returned (.slice p62 l62 c62) ∧
  ∃ a63 : Addr, p62 = some a63 ∧ (0 : Int) ≤ 0 ∧ 0 < (l62 : Int) ∧
  ∃ s64 : ByteArray, w11.cell? a63 = some (.string s64) ∧
  ∃ a65 : Addr, p57 = some a65 ∧ (0 : Int) ≤ Int.tmod (IntKind.i64.wrap n2) (IntKind.i64.wrap ((IntKind.i64.wrap (2 + (Int.tmod (IntKind.i64.wrap n1) 7))) + 2)) ∧ (Int.tmod (IntKind.i64.wrap n2) (IntKind.i64.wrap ((IntKind.i64.wrap (2 + (Int.tmod (IntKind.i64.wrap n1) 7))) + 2))) < (l57 : Int) ∧
  St (Addr.add a65 ((Int.tmod (IntKind.i64.wrap n2) (IntKind.i64.wrap ((IntKind.i64.wrap (2 + (Int.tmod (IntKind.i64.wrap n1) 7))) + 2))).toNat * 1)) (.string s64) w11 fun w12 =>
  Calls Tryz.prog 12 #[.slice p57 l57 c57] w12 fun e_8 w13 => ∃ (p68_0 : Option Addr) (l68_0 c68_0 : Nat), ∃ n68_1 : Int, ∃ n68_2 : Int, e_8 = .returned (.tuple #[.slice p68_0 l68_0 c68_0, .int .i64 n68_1, .int .i64 n68_2]) ∧
  ((n68_2 != 0) = true →
  R (.bool false) w13) ∧
  ((n68_2 != 0) = false →
  Calls Tryz.prog 13 #[.slice p68_0 l68_0 c68_0, .slice p37_0 l37_0 c37_0] w13 fun e_9 w14 => ∃ b77 : Bool, e_9 = .returned (.bool b77) ∧
  ((!b77) = true →
  R (.bool false) w14) ∧
  ((!b77) = false →
  ∃ D : World → Prop, D w14.drew ∧
  ∃ a82 : Addr, p57 = some a82 ∧ (0 : Int) ≤ Int.tmod (IntKind.i64.wrap n2) (IntKind.i64.wrap ((IntKind.i64.wrap (2 + (Int.tmod (IntKind.i64.wrap n1) 7))) + 2)) ∧ (Int.tmod (IntKind.i64.wrap n2) (IntKind.i64.wrap ((IntKind.i64.wrap (2 + (Int.tmod (IntKind.i64.wrap n1) 7))) + 2))) < (l57 : Int) ∧
  ∃ s83 : ByteArray, (∀ w, D w → w.cell? (Addr.add a82 ((Int.tmod (IntKind.i64.wrap n2) (IntKind.i64.wrap ((IntKind.i64.wrap (2 + (Int.tmod (IntKind.i64.wrap n1) 7))) + 2))).toNat * 1)) = some (.string s83)) ∧
  ∃ a86 : Addr, p37_0 = some a86 ∧ (0 : Int) ≤ Int.tmod (IntKind.i64.wrap n2) (IntKind.i64.wrap ((IntKind.i64.wrap (2 + (Int.tmod (IntKind.i64.wrap n1) 7))) + 2)) ∧ (Int.tmod (IntKind.i64.wrap n2) (IntKind.i64.wrap ((IntKind.i64.wrap (2 + (Int.tmod (IntKind.i64.wrap n1) 7))) + 2))) < (l37_0 : Int) ∧
  ∃ s87 : ByteArray, (∀ w, D w → w.cell? (Addr.add a86 ((Int.tmod (IntKind.i64.wrap n2) (IntKind.i64.wrap ((IntKind.i64.wrap (2 + (Int.tmod (IntKind.i64.wrap n1) 7))) + 2))).toNat * 1)) = some (.string s87)) ∧
  ((s83.toList == s87.toList) = true →
  R (.bool (n68_1 == (-1))) w14.drew) ∧
  ((s83.toList == s87.toList) = false →
  R (.bool (n68_1 == (Int.tmod (IntKind.i64.wrap n2) (IntKind.i64.wrap ((IntKind.i64.wrap (2 + (Int.tmod (IntKind.i64.wrap n1) 7))) + 2))))) w14.drew))))))))
theorem revetmentlaw18_ScrubOne_eq (p0 : Option Addr) (l0 c0 : Nat) (n1 : Int) (n2 : Int) (s3 : ByteArray) (w : World) (R : Value → World → Prop) : revetmentlaw18_ScrubOne p0 l0 c0 n1 n2 s3 w R = fnP Tryz.prog Tryz.f3 .o [.slice p0 l0 c0, .int .u8 n1, .int .u8 n2, .string s3] w R := by kernel_rfl
theorem revetmentlaw18_ScrubOne_calls {p0 : Option Addr} {l0 c0 : Nat} {n1 : Int} {n2 : Int} {s3 : ByteArray} {w : World} {R : Value → World → Prop} (h : revetmentlaw18_ScrubOne p0 l0 c0 n1 n2 s3 w R) : Calls Tryz.prog 3 #[.slice p0 l0 c0, .int .u8 n1, .int .u8 n2, .string s3] w fun e w1 => ∃ v, e = .returned v ∧ R v w1 := fnP_calls callable Tryz.func3 (revetmentlaw18_ScrubOne_eq p0 l0 c0 n1 n2 s3 w R ▸ h)

/-- revetment/revetmentlaw18.ScrubMany -/
def revetmentlaw18_ScrubMany (p0 : Option Addr) (l0 c0 : Nat) (n1 : Int) (n2 : Int) (n3 : Int) (n4 : Int) (n5 : Int) (w : World) (R : Value → World → Prop) : Prop :=
  Calls Tryz.prog 8 #[.slice p0 l0 c0] w fun e w1 => ∃ b26 : Bool, e = .returned (.bool b26) ∧
  (b26 = true →
  Calls Tryz.prog 9 #[] w1 fun e_1 w2 => ∃ b31 : Bool, e_1 = .returned (.bool b31) ∧
  R (.bool b31) w2) ∧
  (b26 = false →
  Calls Tryz.prog 9 #[] w1 fun e_2 w3 => ∃ b28 : Bool, e_2 = .returned (.bool b28) ∧
  ((!b28) = true →
  Calls Tryz.prog 9 #[] w3 fun e_3 w4 => ∃ b31_1 : Bool, e_3 = .returned (.bool b31_1) ∧
  R (.bool b31_1) w4) ∧
  ((!b28) = false →
  Calls Tryz.prog 11 #[.slice p0 l0 c0, .int .i64 (IntKind.i64.wrap (2 + (Int.tmod (IntKind.i64.wrap n1) 7)))] w3 fun e_4 w5 => ∃ (p39 : Option Addr) (l39 c39 : Nat), e_4 = .returned (.slice p39 l39 c39) ∧
  Calls Tryz.prog 10 #[.slice p39 l39 c39] w5 fun e_5 w6 => ∃ (p40_0 : Option Addr) (l40_0 c40_0 : Nat), ∃ n40_1 : Int, e_5 = .returned (.tuple #[.slice p40_0 l40_0 c40_0, .int .i64 n40_1]) ∧
  ((n40_1 != 0) = true →
  R (.bool false) w6) ∧
  ((n40_1 != 0) = false →
  (((l40_0 : Int) != (IntKind.i64.wrap ((IntKind.i64.wrap (2 + (Int.tmod (IntKind.i64.wrap n1) 7))) + 2))) = true →
  R (.bool false) w6) ∧
  (((l40_0 : Int) != (IntKind.i64.wrap ((IntKind.i64.wrap (2 + (Int.tmod (IntKind.i64.wrap n1) 7))) + 2))) = false →
  (IntKind.i64.wrap ((IntKind.i64.wrap (2 + (Int.tmod (IntKind.i64.wrap n1) 7))) + 2)) ≠ 0 ∧
  (IntKind.i64.wrap ((IntKind.i64.wrap (2 + (Int.tmod (IntKind.i64.wrap n1) 7))) + 2)) ≠ 0 ∧
  Join (fun vs w7 => ∃ n17 : Int, vs = [.int .i64 n17] ∧
  Alloc #[] 9 w7 fun k70 w8 =>
  ∃ (p73 : Option Addr) (l73 c73 : Nat), ∃ w9, (builtin .append #[22, 22] 22 #[false, false] #[.slice (some ⟨k70, 0, none⟩) 0 0, .slice p40_0 l40_0 c40_0]).run Tryz.prog w8 = .ok (.value (.slice p73 l73 c73)) w9 ∧
  ∃ D : World → Prop, D w9.drew ∧
  ∃ a78 : Addr, p40_0 = some a78 ∧ (0 : Int) ≤ Int.tmod (IntKind.i64.wrap n2) (IntKind.i64.wrap ((IntKind.i64.wrap (2 + (Int.tmod (IntKind.i64.wrap n1) 7))) + 2)) ∧ (Int.tmod (IntKind.i64.wrap n2) (IntKind.i64.wrap ((IntKind.i64.wrap (2 + (Int.tmod (IntKind.i64.wrap n1) 7))) + 2))) < (l40_0 : Int) ∧
  ∃ s79 : ByteArray, (∀ w, D w → w.cell? (Addr.add a78 ((Int.tmod (IntKind.i64.wrap n2) (IntKind.i64.wrap ((IntKind.i64.wrap (2 + (Int.tmod (IntKind.i64.wrap n1) 7))) + 2))).toNat * 1)) = some (.string s79)) ∧
  ∃ n80 : Int, (∀ w, D w → (Instr.index 9 (.string s79) (.int .i64 0)).run Tryz.prog w = .ok (.int .u8 n80) w) ∧
  Alloc #[.int .u8 (bits2 .xor .u8 n80 n4)] 5 w9.drew fun k83 w10 =>
  D w10 ∧
  ∃ s84 : ByteArray, (∀ x0, x0 = w10 → (convert 33 9 (.slice (some ⟨k83, 0, none⟩) 1 1)).run Tryz.prog x0 = .ok (.string s84) x0) ∧
  ∃ a87 : Addr, p40_0 = some a87 ∧ (0 : Int) ≤ Int.tmod (IntKind.i64.wrap n2) (IntKind.i64.wrap ((IntKind.i64.wrap (2 + (Int.tmod (IntKind.i64.wrap n1) 7))) + 2)) ∧ (Int.tmod (IntKind.i64.wrap n2) (IntKind.i64.wrap ((IntKind.i64.wrap (2 + (Int.tmod (IntKind.i64.wrap n1) 7))) + 2))) < (l40_0 : Int) ∧
  ∃ s88 : ByteArray, (∀ w, D w → w.cell? (Addr.add a87 ((Int.tmod (IntKind.i64.wrap n2) (IntKind.i64.wrap ((IntKind.i64.wrap (2 + (Int.tmod (IntKind.i64.wrap n1) 7))) + 2))).toNat * 1)) = some (.string s88)) ∧
  ∃ s89 : ByteArray, (∀ w, D w → (Instr.sliceAt 9 (.string s88) (some (.int .i64 1)) none none).run Tryz.prog w = .ok (.string s89) w) ∧
  ((s84.size + s89.size : Nat) : Int) ≤ 9223372036854775807 ∧
  ∃ a91 : Addr, p73 = some a91 ∧ (0 : Int) ≤ Int.tmod (IntKind.i64.wrap n2) (IntKind.i64.wrap ((IntKind.i64.wrap (2 + (Int.tmod (IntKind.i64.wrap n1) 7))) + 2)) ∧ (Int.tmod (IntKind.i64.wrap n2) (IntKind.i64.wrap ((IntKind.i64.wrap (2 + (Int.tmod (IntKind.i64.wrap n1) 7))) + 2))) < (l73 : Int) ∧
  St (Addr.add a91 ((Int.tmod (IntKind.i64.wrap n2) (IntKind.i64.wrap ((IntKind.i64.wrap (2 + (Int.tmod (IntKind.i64.wrap n1) 7))) + 2))).toNat * 1)) (.string (s84 ++ s89)) w10 fun w11 =>
  ∃ D_1 : World → Prop, D_1 w11.drew ∧
  ∃ a96 : Addr, p40_0 = some a96 ∧ (0 : Int) ≤ n17 ∧ n17 < (l40_0 : Int) ∧
  ∃ s97 : ByteArray, (∀ w, D_1 w → w.cell? (Addr.add a96 (n17.toNat * 1)) = some (.string s97)) ∧
  ∃ n98 : Int, (∀ w, D_1 w → (Instr.index 9 (.string s97) (.int .i64 0)).run Tryz.prog w = .ok (.int .u8 n98) w) ∧
  Alloc #[.int .u8 (bits2 .xor .u8 n98 n5)] 5 w11.drew fun k101 w12 =>
  D_1 w12 ∧
  ∃ s102 : ByteArray, (∀ x0, x0 = w12 → (convert 33 9 (.slice (some ⟨k101, 0, none⟩) 1 1)).run Tryz.prog x0 = .ok (.string s102) x0) ∧
  ∃ a105 : Addr, p40_0 = some a105 ∧ (0 : Int) ≤ n17 ∧ n17 < (l40_0 : Int) ∧
  ∃ s106 : ByteArray, (∀ w, D_1 w → w.cell? (Addr.add a105 (n17.toNat * 1)) = some (.string s106)) ∧
  ∃ s107 : ByteArray, (∀ w, D_1 w → (Instr.sliceAt 9 (.string s106) (some (.int .i64 1)) none none).run Tryz.prog w = .ok (.string s107) w) ∧
  ((s102.size + s107.size : Nat) : Int) ≤ 9223372036854775807 ∧
  ∃ a109 : Addr, p73 = some a109 ∧ (0 : Int) ≤ n17 ∧ n17 < (l73 : Int) ∧
  St (Addr.add a109 (n17.toNat * 1)) (.string (s102 ++ s107)) w12 fun w13 =>
  Calls Tryz.prog 14 #[.slice p73 l73 c73] w13 fun e_6 w14 => ∃ n112_0 : Int, ∃ n112_1 : Int, ∃ n112_2 : Int, e_6 = .returned (.tuple #[.int .i64 n112_0, .int .i64 n112_1, .int .i64 n112_2]) ∧
  Calls Tryz.prog 12 #[.slice p73 l73 c73] w14 fun e_7 w15 => ∃ (p118_0 : Option Addr) (l118_0 c118_0 : Nat), ∃ n118_1 : Int, ∃ n118_2 : Int, e_7 = .returned (.tuple #[.slice p118_0 l118_0 c118_0, .int .i64 n118_1, .int .i64 n118_2]) ∧
  Join (fun vs_1 w16 => vs_1 = [] ∧
  ((n112_0 == 2) = true →
  ((n118_2 == 5) = true →
  R (.bool ((l118_0 : Int) == 0)) w16) ∧
  ((n118_2 == 5) = false →
  R (.bool false) w16)) ∧
  ((n112_0 == 2) = false →
  ((n118_2 == 0) = true →
  Calls Tryz.prog 15 #[.slice p118_0 l118_0 c118_0] w16 fun e_8 w17 => ∃ b148 : Bool, e_8 = .returned (.bool b148) ∧
  (b148 = true →
  ((n4 != 0) = true →
  ((n5 != 0) = true →
  R (.bool true) w17) ∧
  ((n5 != 0) = false →
  Calls Tryz.prog 13 #[.slice p118_0 l118_0 c118_0, .slice p40_0 l40_0 c40_0] w17 fun e_9 w18 => ∃ b160 : Bool, e_9 = .returned (.bool b160) ∧
  R (.bool b160) w18)) ∧
  ((n4 != 0) = false →
  Calls Tryz.prog 13 #[.slice p118_0 l118_0 c118_0, .slice p40_0 l40_0 c40_0] w17 fun e_10 w19 => ∃ b160_1 : Bool, e_10 = .returned (.bool b160_1) ∧
  R (.bool b160_1) w19)) ∧
  (b148 = false →
  R (.bool false) w17)) ∧
  ((n118_2 == 0) = false →
  R (.bool false) w16))) fun J_1 =>
  ((n112_2 != 0) = true →
  R (.bool false) w15) ∧
  ((n112_2 != 0) = false →
  ((n4 == 0) = true →
  ((!((n112_0 == 0) == (n5 == 0))) = true →
  R (.bool false) w15) ∧
  ((!((n112_0 == 0) == (n5 == 0))) = false →
  J_1 [] w15)) ∧
  ((n4 == 0) = false →
  ((!((n112_0 == 0) == false)) = true →
  R (.bool false) w15) ∧
  ((!((n112_0 == 0) == false)) = false →
  J_1 [] w15)))) fun J =>
  (((Int.tmod (IntKind.i64.wrap n2) (IntKind.i64.wrap ((IntKind.i64.wrap (2 + (Int.tmod (IntKind.i64.wrap n1) 7))) + 2))) == (Int.tmod (IntKind.i64.wrap n3) (IntKind.i64.wrap ((IntKind.i64.wrap (2 + (Int.tmod (IntKind.i64.wrap n1) 7))) + 2)))) = true →
  (IntKind.i64.wrap ((IntKind.i64.wrap (2 + (Int.tmod (IntKind.i64.wrap n1) 7))) + 2)) ≠ 0 ∧
  J [.int .i64 (Int.tmod (IntKind.i64.wrap ((Int.tmod (IntKind.i64.wrap n2) (IntKind.i64.wrap ((IntKind.i64.wrap (2 + (Int.tmod (IntKind.i64.wrap n1) 7))) + 2))) + 1)) (IntKind.i64.wrap ((IntKind.i64.wrap (2 + (Int.tmod (IntKind.i64.wrap n1) 7))) + 2)))] w6) ∧
  (((Int.tmod (IntKind.i64.wrap n2) (IntKind.i64.wrap ((IntKind.i64.wrap (2 + (Int.tmod (IntKind.i64.wrap n1) 7))) + 2))) == (Int.tmod (IntKind.i64.wrap n3) (IntKind.i64.wrap ((IntKind.i64.wrap (2 + (Int.tmod (IntKind.i64.wrap n1) 7))) + 2)))) = false →
  J [.int .i64 (Int.tmod (IntKind.i64.wrap n3) (IntKind.i64.wrap ((IntKind.i64.wrap (2 + (Int.tmod (IntKind.i64.wrap n1) 7))) + 2)))] w6)))))
theorem revetmentlaw18_ScrubMany_eq (p0 : Option Addr) (l0 c0 : Nat) (n1 : Int) (n2 : Int) (n3 : Int) (n4 : Int) (n5 : Int) (w : World) (R : Value → World → Prop) : revetmentlaw18_ScrubMany p0 l0 c0 n1 n2 n3 n4 n5 w R = fnP Tryz.prog Tryz.f4 (.s .o (.s .o (.s .o (.s .o (.s .o (.s .o (.s .o (.j [(17, .one (.int .i64))] .o (.s .o (.s .o (.s .o (.s .o (.s .o (.s .o (.j [] .o .o))))))))))))))) [.slice p0 l0 c0, .int .u8 n1, .int .u8 n2, .int .u8 n3, .int .u8 n4, .int .u8 n5] w R := by kernel_rfl
theorem revetmentlaw18_ScrubMany_calls {p0 : Option Addr} {l0 c0 : Nat} {n1 : Int} {n2 : Int} {n3 : Int} {n4 : Int} {n5 : Int} {w : World} {R : Value → World → Prop} (h : revetmentlaw18_ScrubMany p0 l0 c0 n1 n2 n3 n4 n5 w R) : Calls Tryz.prog 4 #[.slice p0 l0 c0, .int .u8 n1, .int .u8 n2, .int .u8 n3, .int .u8 n4, .int .u8 n5] w fun e w1 => ∃ v, e = .returned v ∧ R v w1 := fnP_calls callable Tryz.func4 (revetmentlaw18_ScrubMany_eq p0 l0 c0 n1 n2 n3 n4 n5 w R ▸ h)

/-- revetment/revetmentlaw18.ScrubTells -/
def revetmentlaw18_ScrubTells (p0 : Option Addr) (l0 c0 : Nat) (w : World) (R : Value → World → Prop) : Prop :=
  Calls Tryz.prog 8 #[.slice p0 l0 c0] w fun e w1 => ∃ b20 : Bool, e = .returned (.bool b20) ∧
  (b20 = true →
  Calls Tryz.prog 9 #[] w1 fun e_1 w2 => ∃ b25 : Bool, e_1 = .returned (.bool b25) ∧
  R (.bool b25) w2) ∧
  (b20 = false →
  Calls Tryz.prog 9 #[] w1 fun e_2 w3 => ∃ b22 : Bool, e_2 = .returned (.bool b22) ∧
  ((!b22) = true →
  Calls Tryz.prog 9 #[] w3 fun e_3 w4 => ∃ b25_1 : Bool, e_3 = .returned (.bool b25_1) ∧
  R (.bool b25_1) w4) ∧
  ((!b22) = false →
  Calls Tryz.prog 14 #[.slice p0 l0 c0] w3 fun e_4 w5 => ∃ n28_0 : Int, ∃ n28_1 : Int, ∃ n28_2 : Int, e_4 = .returned (.tuple #[.int .i64 n28_0, .int .i64 n28_1, .int .i64 n28_2]) ∧
  Calls Tryz.prog 16 #[.slice p0 l0 c0] w5 fun e_5 w6 => ∃ n34_0 : Int, ∃ n34_1 : Int, ∃ n34_2 : Int, e_5 = .returned (.tuple #[.int .i64 n34_0, .int .i64 n34_1, .int .i64 n34_2]) ∧
  Calls Tryz.prog 12 #[.slice p0 l0 c0] w6 fun e_6 w7 => ∃ (p40_0 : Option Addr) (l40_0 c40_0 : Nat), ∃ n40_1 : Int, ∃ n40_2 : Int, e_6 = .returned (.tuple #[.slice p40_0 l40_0 c40_0, .int .i64 n40_1, .int .i64 n40_2]) ∧
  Calls Tryz.prog 17 #[.slice p0 l0 c0] w7 fun e_7 w8 => ∃ (p46_0 : Option Addr) (l46_0 c46_0 : Nat), ∃ n46_1 : Int, ∃ n46_2 : Int, e_7 = .returned (.tuple #[.slice p46_0 l46_0 c46_0, .int .i64 n46_1, .int .i64 n46_2]) ∧
  Calls Tryz.prog 18 #[.slice p0 l0 c0] w8 fun e_8 w9 => ∃ (p52_0 : Option Addr) (l52_0 c52_0 : Nat), ∃ n52_1 : Int, e_8 = .returned (.tuple #[.slice p52_0 l52_0 c52_0, .int .i64 n52_1]) ∧
  Calls Tryz.prog 19 #[.slice p0 l0 c0] w9 fun e_9 w10 => ∃ (p57_0 : Option Addr) (l57_0 c57_0 : Nat), ∃ n57_1 : Int, e_9 = .returned (.tuple #[.slice p57_0 l57_0 c57_0, .int .i64 n57_1]) ∧
  ((n28_0 == n34_0) = true →
  ((n28_1 == n34_1) = true →
  ((n28_2 == n34_2) = true →
  Calls Tryz.prog 13 #[.slice p40_0 l40_0 c40_0, .slice p46_0 l46_0 c46_0] w10 fun e_10 w11 => ∃ b76 : Bool, e_10 = .returned (.bool b76) ∧
  (b76 = true →
  ((n40_1 == n46_1) = true →
  ((n40_2 == n46_2) = true →
  Calls Tryz.prog 13 #[.slice p52_0 l52_0 c52_0, .slice p57_0 l57_0 c57_0] w11 fun e_11 w12 => ∃ b91 : Bool, e_11 = .returned (.bool b91) ∧
  (b91 = true →
  R (.bool (n52_1 == n57_1)) w12) ∧
  (b91 = false →
  R (.bool false) w12)) ∧
  ((n40_2 == n46_2) = false →
  R (.bool false) w11)) ∧
  ((n40_1 == n46_1) = false →
  R (.bool false) w11)) ∧
  (b76 = false →
  R (.bool false) w11)) ∧
  ((n28_2 == n34_2) = false →
  R (.bool false) w10)) ∧
  ((n28_1 == n34_1) = false →
  R (.bool false) w10)) ∧
  ((n28_0 == n34_0) = false →
  R (.bool false) w10)))
theorem revetmentlaw18_ScrubTells_eq (p0 : Option Addr) (l0 c0 : Nat) (w : World) (R : Value → World → Prop) : revetmentlaw18_ScrubTells p0 l0 c0 w R = fnP Tryz.prog Tryz.f5 .o [.slice p0 l0 c0] w R := by kernel_rfl
theorem revetmentlaw18_ScrubTells_calls {p0 : Option Addr} {l0 c0 : Nat} {w : World} {R : Value → World → Prop} (h : revetmentlaw18_ScrubTells p0 l0 c0 w R) : Calls Tryz.prog 5 #[.slice p0 l0 c0] w fun e w1 => ∃ v, e = .returned v ∧ R v w1 := fnP_calls callable Tryz.func5 (revetmentlaw18_ScrubTells_eq p0 l0 c0 w R ▸ h)

/-- revetment/revetmentlaw18.ScrubGood -/
def revetmentlaw18_ScrubGood (p0 : Option Addr) (l0 c0 : Nat) (n1 : Int) (w : World) (R : Value → World → Prop) : Prop :=
  Calls Tryz.prog 8 #[.slice p0 l0 c0] w fun e w1 => ∃ b18 : Bool, e = .returned (.bool b18) ∧
  (b18 = true →
  Calls Tryz.prog 9 #[] w1 fun e_1 w2 => ∃ b23 : Bool, e_1 = .returned (.bool b23) ∧
  R (.bool b23) w2) ∧
  (b18 = false →
  Calls Tryz.prog 9 #[] w1 fun e_2 w3 => ∃ b20 : Bool, e_2 = .returned (.bool b20) ∧
  ((!b20) = true →
  Calls Tryz.prog 9 #[] w3 fun e_3 w4 => ∃ b23_1 : Bool, e_3 = .returned (.bool b23_1) ∧
  R (.bool b23_1) w4) ∧
  ((!b20) = false →
  Calls Tryz.prog 11 #[.slice p0 l0 c0, .int .i64 (IntKind.i64.wrap (4 + (Int.tmod (IntKind.i64.wrap n1) 7)))] w3 fun e_4 w5 => ∃ (p29 : Option Addr) (l29 c29 : Nat), e_4 = .returned (.slice p29 l29 c29) ∧
  Calls Tryz.prog 14 #[.slice p29 l29 c29] w5 fun e_5 w6 => ∃ n32_0 : Int, ∃ n32_1 : Int, ∃ n32_2 : Int, e_5 = .returned (.tuple #[.int .i64 n32_0, .int .i64 n32_1, .int .i64 n32_2]) ∧
  Calls Tryz.prog 12 #[.slice p29 l29 c29] w6 fun e_6 w7 => ∃ (p38_0 : Option Addr) (l38_0 c38_0 : Nat), ∃ n38_1 : Int, ∃ n38_2 : Int, e_6 = .returned (.tuple #[.slice p38_0 l38_0 c38_0, .int .i64 n38_1, .int .i64 n38_2]) ∧
  Calls Tryz.prog 18 #[.slice p29 l29 c29] w7 fun e_7 w8 => ∃ (p44_0 : Option Addr) (l44_0 c44_0 : Nat), ∃ n44_1 : Int, e_7 = .returned (.tuple #[.slice p44_0 l44_0 c44_0, .int .i64 n44_1]) ∧
  ((n32_2 != 0) = true →
  R (.bool false) w8) ∧
  ((n32_2 != 0) = false →
  ((n44_1 != 0) = true →
  R (.bool false) w8) ∧
  ((n44_1 != 0) = false →
  Calls Tryz.prog 15 #[.slice p44_0 l44_0 c44_0] w8 fun e_8 w9 => ∃ b55 : Bool, e_8 = .returned (.bool b55) ∧
  ((!b55) = true →
  R (.bool false) w9) ∧
  ((!b55) = false →
  Calls Tryz.prog 15 #[.slice p29 l29 c29] w9 fun e_9 w10 => ∃ b62 : Bool, e_9 = .returned (.bool b62) ∧
  ((!((n32_0 == 0) == b62)) = true →
  R (.bool false) w10) ∧
  ((!((n32_0 == 0) == b62)) = false →
  ((!((n38_2 == 5) == (n32_0 == 2))) = true →
  R (.bool false) w10) ∧
  ((!((n38_2 == 5) == (n32_0 == 2))) = false →
  ((n38_2 != 0) = true →
  R (.bool ((l38_0 : Int) == 0)) w10) ∧
  ((n38_2 != 0) = false →
  Calls Tryz.prog 12 #[.slice p38_0 l38_0 c38_0] w10 fun e_10 w11 => ∃ (p79_0 : Option Addr) (l79_0 c79_0 : Nat), ∃ n79_1 : Int, ∃ n79_2 : Int, e_10 = .returned (.tuple #[.slice p79_0 l79_0 c79_0, .int .i64 n79_1, .int .i64 n79_2]) ∧
  Calls Tryz.prog 15 #[.slice p38_0 l38_0 c38_0] w11 fun e_11 w12 => ∃ b84 : Bool, e_11 = .returned (.bool b84) ∧
  (b84 = true →
  ((n79_2 == 0) = true →
  ((n79_1 == (-1)) = true →
  Calls Tryz.prog 13 #[.slice p79_0 l79_0 c79_0, .slice p38_0 l38_0 c38_0] w12 fun e_12 w13 => ∃ b96 : Bool, e_12 = .returned (.bool b96) ∧
  R (.bool b96) w13) ∧
  ((n79_1 == (-1)) = false →
  R (.bool false) w12)) ∧
  ((n79_2 == 0) = false →
  R (.bool false) w12)) ∧
  (b84 = false →
  R (.bool false) w12)))))))))
theorem revetmentlaw18_ScrubGood_eq (p0 : Option Addr) (l0 c0 : Nat) (n1 : Int) (w : World) (R : Value → World → Prop) : revetmentlaw18_ScrubGood p0 l0 c0 n1 w R = fnP Tryz.prog Tryz.f6 .o [.slice p0 l0 c0, .int .u8 n1] w R := by kernel_rfl
theorem revetmentlaw18_ScrubGood_calls {p0 : Option Addr} {l0 c0 : Nat} {n1 : Int} {w : World} {R : Value → World → Prop} (h : revetmentlaw18_ScrubGood p0 l0 c0 n1 w R) : Calls Tryz.prog 6 #[.slice p0 l0 c0, .int .u8 n1] w fun e w1 => ∃ v, e = .returned v ∧ R v w1 := fnP_calls callable Tryz.func6 (revetmentlaw18_ScrubGood_eq p0 l0 c0 n1 w R ▸ h)

/-- revetment/revetmentlaw18.ScrubParity -/
def revetmentlaw18_ScrubParity (p0 : Option Addr) (l0 c0 : Nat) (n1 : Int) (s2_0 : ByteArray) (s2_1 : ByteArray) (w : World) (R : Value → World → Prop) : Prop :=
  Alloc #[.string s2_0, .string s2_1] 38 w fun k5 w1 =>
  Calls Tryz.prog 8 #[.slice p0 l0 c0] w1 fun e w2 => ∃ b17 : Bool, e = .returned (.bool b17) ∧
  (b17 = true →
  Calls Tryz.prog 9 #[] w2 fun e_1 w3 => ∃ b34 : Bool, e_1 = .returned (.bool b34) ∧
  R (.bool b34) w3) ∧
  (b17 = false →
  (0 : Int) ≤ 0 ∧ 0 < (2 : Int) ∧
  ∃ s20 : ByteArray, w2.cell? ⟨k5, 0, none⟩ = some (.string s20) ∧
  ((decide ((s20.size : Int) > 100)) = true →
  Calls Tryz.prog 9 #[] w2 fun e_2 w4 => ∃ b34_1 : Bool, e_2 = .returned (.bool b34_1) ∧
  R (.bool b34_1) w4) ∧
  ((decide ((s20.size : Int) > 100)) = false →
  (0 : Int) ≤ 1 ∧ 1 < (2 : Int) ∧
  ∃ s26 : ByteArray, w2.cell? ⟨k5, 1, none⟩ = some (.string s26) ∧
  ((decide ((s26.size : Int) > 100)) = true →
  Calls Tryz.prog 9 #[] w2 fun e_3 w5 => ∃ b34_2 : Bool, e_3 = .returned (.bool b34_2) ∧
  R (.bool b34_2) w5) ∧
  ((decide ((s26.size : Int) > 100)) = false →
  Calls Tryz.prog 9 #[] w2 fun e_4 w6 => ∃ b31 : Bool, e_4 = .returned (.bool b31) ∧
  ((!b31) = true →
  Calls Tryz.prog 9 #[] w6 fun e_5 w7 => ∃ b34_3 : Bool, e_5 = .returned (.bool b34_3) ∧
  R (.bool b34_3) w7) ∧
  ((!b31) = false →
  Calls Tryz.prog 11 #[.slice p0 l0 c0, .int .i64 (IntKind.i64.wrap (2 + (Int.tmod (IntKind.i64.wrap n1) 7)))] w6 fun e_6 w8 => ∃ (p42 : Option Addr) (l42 c42 : Nat), e_6 = .returned (.slice p42 l42 c42) ∧
  Calls Tryz.prog 10 #[.slice p42 l42 c42] w8 fun e_7 w9 => ∃ (p43_0 : Option Addr) (l43_0 c43_0 : Nat), ∃ n43_1 : Int, e_7 = .returned (.tuple #[.slice p43_0 l43_0 c43_0, .int .i64 n43_1]) ∧
  ((n43_1 != 0) = true →
  R (.bool false) w9) ∧
  ((n43_1 != 0) = false →
  (((l43_0 : Int) != (IntKind.i64.wrap ((IntKind.i64.wrap (2 + (Int.tmod (IntKind.i64.wrap n1) 7))) + 2))) = true →
  R (.bool false) w9) ∧
  (((l43_0 : Int) != (IntKind.i64.wrap ((IntKind.i64.wrap (2 + (Int.tmod (IntKind.i64.wrap n1) 7))) + 2))) = false →
  Alloc #[] 9 w9 fun k55 w10 =>
  ∃ (p58 : Option Addr) (l58 c58 : Nat), ∃ w11, (builtin .append #[22, 22] 22 #[false, false] #[.slice (some ⟨k55, 0, none⟩) 0 0, .slice p43_0 l43_0 c43_0]).run Tryz.prog w10 = .ok (.value (.slice p58 l58 c58)) w11 ∧
  ∃ (p61 : Option Addr) (l61 c61 : Nat), ∃ w12, (Instr.sliceAt 38 (.pointer (some ⟨k5, 0, none⟩)) none (some (.int .i64 1)) none).run Tryz.prog w11 = .ok (.slice p61 l61 c61) w12 ∧
  Calls Tryz.prog 11 #[.slice p61 l61 c61, .int .i64 1] w12 fun e_8 w13 => ∃ (p62 : Option Addr) (l62 c62 : Nat), e_8 = .returned (.slice p62 l62 c62) ∧
  ∃ a63 : Addr, p62 = some a63 ∧ (0 : Int) ≤ 0 ∧ 0 < (l62 : Int) ∧
  ∃ s64 : ByteArray, w13.cell? a63 = some (.string s64) ∧
  ∃ a65 : Addr, p58 = some a65 ∧ (0 : Int) ≤ IntKind.i64.wrap (2 + (Int.tmod (IntKind.i64.wrap n1) 7)) ∧ (IntKind.i64.wrap (2 + (Int.tmod (IntKind.i64.wrap n1) 7))) < (l58 : Int) ∧
  St (Addr.add a65 ((IntKind.i64.wrap (2 + (Int.tmod (IntKind.i64.wrap n1) 7))).toNat * 1)) (.string s64) w13 fun w14 =>
  ∃ (p69 : Option Addr) (l69 c69 : Nat), ∃ w15, (Instr.sliceAt 38 (.pointer (some ⟨k5, 0, none⟩)) (some (.int .i64 1)) none none).run Tryz.prog w14 = .ok (.slice p69 l69 c69) w15 ∧
  Calls Tryz.prog 11 #[.slice p69 l69 c69, .int .i64 1] w15 fun e_9 w16 => ∃ (p70 : Option Addr) (l70 c70 : Nat), e_9 = .returned (.slice p70 l70 c70) ∧
  ∃ a71 : Addr, p70 = some a71 ∧ (0 : Int) ≤ 0 ∧ 0 < (l70 : Int) ∧
  ∃ s72 : ByteArray, w16.cell? a71 = some (.string s72) ∧
  ∃ a73 : Addr, p58 = some a73 ∧ (0 : Int) ≤ IntKind.i64.wrap ((IntKind.i64.wrap (2 + (Int.tmod (IntKind.i64.wrap n1) 7))) + 1) ∧ (IntKind.i64.wrap ((IntKind.i64.wrap (2 + (Int.tmod (IntKind.i64.wrap n1) 7))) + 1)) < (l58 : Int) ∧
  St (Addr.add a73 ((IntKind.i64.wrap ((IntKind.i64.wrap (2 + (Int.tmod (IntKind.i64.wrap n1) 7))) + 1)).toNat * 1)) (.string s72) w16 fun w17 =>
  Calls Tryz.prog 18 #[.slice p58 l58 c58] w17 fun e_10 w18 => ∃ (p76_0 : Option Addr) (l76_0 c76_0 : Nat), ∃ n76_1 : Int, e_10 = .returned (.tuple #[.slice p76_0 l76_0 c76_0, .int .i64 n76_1]) ∧
  Calls Tryz.prog 12 #[.slice p43_0 l43_0 c43_0] w18 fun e_11 w19 => ∃ (p81_0 : Option Addr) (l81_0 c81_0 : Nat), ∃ n81_1 : Int, ∃ n81_2 : Int, e_11 = .returned (.tuple #[.slice p81_0 l81_0 c81_0, .int .i64 n81_1, .int .i64 n81_2]) ∧
  ((n76_1 == 0) = true →
  Calls Tryz.prog 13 #[.slice p76_0 l76_0 c76_0, .slice p43_0 l43_0 c43_0] w19 fun e_12 w20 => ∃ b90 : Bool, e_12 = .returned (.bool b90) ∧
  (b90 = true →
  ((n81_2 == 0) = true →
  ((n81_1 == (-1)) = true →
  Calls Tryz.prog 13 #[.slice p81_0 l81_0 c81_0, .slice p43_0 l43_0 c43_0] w20 fun e_13 w21 => ∃ b103 : Bool, e_13 = .returned (.bool b103) ∧
  R (.bool b103) w21) ∧
  ((n81_1 == (-1)) = false →
  R (.bool false) w20)) ∧
  ((n81_2 == 0) = false →
  R (.bool false) w20)) ∧
  (b90 = false →
  R (.bool false) w20)) ∧
  ((n76_1 == 0) = false →
  R (.bool false) w19)))))))
theorem revetmentlaw18_ScrubParity_eq (p0 : Option Addr) (l0 c0 : Nat) (n1 : Int) (s2_0 : ByteArray) (s2_1 : ByteArray) (w : World) (R : Value → World → Prop) : revetmentlaw18_ScrubParity p0 l0 c0 n1 s2_0 s2_1 w R = fnP Tryz.prog Tryz.f7 .o [.slice p0 l0 c0, .int .u8 n1, .agg #[.string s2_0, .string s2_1]] w R := by kernel_rfl
theorem revetmentlaw18_ScrubParity_calls {p0 : Option Addr} {l0 c0 : Nat} {n1 : Int} {s2_0 : ByteArray} {s2_1 : ByteArray} {w : World} {R : Value → World → Prop} (h : revetmentlaw18_ScrubParity p0 l0 c0 n1 s2_0 s2_1 w R) : Calls Tryz.prog 7 #[.slice p0 l0 c0, .int .u8 n1, .agg #[.string s2_0, .string s2_1]] w fun e w1 => ∃ v, e = .returned v ∧ R v w1 := fnP_calls callable Tryz.func7 (revetmentlaw18_ScrubParity_eq p0 l0 c0 n1 s2_0 s2_1 w R ▸ h)

/-- revetment/revetmentlaw18.heavy -/
def revetmentlaw18_heavy (p0 : Option Addr) (l0 c0 : Nat) (w : World) (R : Value → World → Prop) : Prop :=
  ((decide ((l0 : Int) > 20)) = true →
  R (.bool true) w) ∧
  ((decide ((l0 : Int) > 20)) = false →
  LoopP (fun I => I [.int .i64 0] w) fun K vs w1 => ∃ n3 : Int, vs = [.int .i64 n3] ∧
  ((decide (n3 < (l0 : Int))) = true →
  ∃ a15 : Addr, p0 = some a15 ∧ (0 : Int) ≤ n3 ∧ n3 < (l0 : Int) ∧
  ∃ s16 : ByteArray, w1.cell? (Addr.add a15 (n3.toNat * 1)) = some (.string s16) ∧
  ((decide ((s16.size : Int) > 100)) = true →
  R (.bool true) w1) ∧
  ((decide ((s16.size : Int) > 100)) = false →
  K [.int .i64 (IntKind.i64.wrap (n3 + 1))] w1)) ∧
  ((decide (n3 < (l0 : Int))) = false →
  R (.bool false) w1))
theorem revetmentlaw18_heavy_eq (p0 : Option Addr) (l0 c0 : Nat) (w : World) (R : Value → World → Prop) : revetmentlaw18_heavy p0 l0 c0 w R = fnP Tryz.prog Tryz.f8 (.s .o (.s .o (.s (.s .o (.b (.l [(3, .one (.int .i64))] .o))) .o))) [.slice p0 l0 c0] w R := by kernel_rfl
theorem revetmentlaw18_heavy_calls {p0 : Option Addr} {l0 c0 : Nat} {w : World} {R : Value → World → Prop} (h : revetmentlaw18_heavy p0 l0 c0 w R) : Calls Tryz.prog 8 #[.slice p0 l0 c0] w fun e w1 => ∃ v, e = .returned v ∧ R v w1 := fnP_calls callable Tryz.func8 (revetmentlaw18_heavy_eq p0 l0 c0 w R ▸ h)

/-- revetment/revetmentlaw18.shown -/
def revetmentlaw18_shown (w : World) (R : Value → World → Prop) : Prop :=
  Alloc #[.string (ByteArray.mk #[1]), .string (ByteArray.mk #[2]), .string (ByteArray.mk #[0]), .string (ByteArray.mk #[3])] 9 w fun k5 w1 =>
  Calls Tryz.prog 14 #[.slice (some ⟨k5, 0, none⟩) 4 4] w1 fun e w2 => ∃ n6_0 : Int, ∃ n6_1 : Int, ∃ n6_2 : Int, e = .returned (.tuple #[.int .i64 n6_0, .int .i64 n6_1, .int .i64 n6_2]) ∧
  ((n6_0 == 1) = true →
  ((n6_1 == 1) = true →
  R (.bool (n6_2 == 0)) w2) ∧
  ((n6_1 == 1) = false →
  R (.bool false) w2)) ∧
  ((n6_0 == 1) = false →
  R (.bool false) w2)
theorem revetmentlaw18_shown_eq (w : World) (R : Value → World → Prop) : revetmentlaw18_shown w R = fnP Tryz.prog Tryz.f9 .o [] w R := by kernel_rfl
theorem revetmentlaw18_shown_calls {w : World} {R : Value → World → Prop} (h : revetmentlaw18_shown w R) : Calls Tryz.prog 9 #[] w fun e w1 => ∃ v, e = .returned v ∧ R v w1 := fnP_calls callable Tryz.func9 (revetmentlaw18_shown_eq w R ▸ h)

/-- revetment/refill.Make -/
def refill_Make (p0 : Option Addr) (l0 c0 : Nat) (w : World) (R : Value → World → Prop) : Prop :=
  Calls Tryz.prog 20 #[.slice p0 l0 c0] w fun e w1 => ∃ (p7 : Option Addr) (l7 c7 : Nat), e = .returned (.slice p7 l7 c7) ∧
  Calls Tryz.prog 21 #[.slice p0 l0 c0] w1 fun e_1 w2 => ∃ s9 : ByteArray, e_1 = .returned (.string s9) ∧
  Calls Tryz.prog 22 #[.slice p0 l0 c0] w2 fun e_2 w3 => ∃ s11 : ByteArray, e_2 = .returned (.string s11) ∧
  Alloc #[.string s9, .string s11] 9 w3 fun k12 w4 =>
  ∃ (p13 : Option Addr) (l13 c13 : Nat), ∃ w5, (builtin .append #[22, 22] 22 #[false, false] #[.slice p7 l7 c7, .slice (some ⟨k12, 0, none⟩) 2 2]).run Tryz.prog w4 = .ok (.value (.slice p13 l13 c13)) w5 ∧
  Calls Tryz.prog 23 #[.slice p13 l13 c13, .slice none 0 0] w5 fun e_3 w6 => ∃ n15 : Int, e_3 = .returned (.int .i64 n15) ∧
  ((n15 != 0) = true →
  R (.tuple #[.slice none 0 0, .int .i64 n15]) w6) ∧
  ((n15 != 0) = false →
  R (.tuple #[.slice p13 l13 c13, .int .i64 0]) w6)
theorem refill_Make_eq (p0 : Option Addr) (l0 c0 : Nat) (w : World) (R : Value → World → Prop) : refill_Make p0 l0 c0 w R = fnP Tryz.prog Tryz.f10 .o [.slice p0 l0 c0] w R := by kernel_rfl
theorem refill_Make_calls {p0 : Option Addr} {l0 c0 : Nat} {w : World} {R : Value → World → Prop} (h : refill_Make p0 l0 c0 w R) : Calls Tryz.prog 10 #[.slice p0 l0 c0] w fun e w1 => ∃ v, e = .returned v ∧ R v w1 := fnP_calls callable Tryz.func10 (refill_Make_eq p0 l0 c0 w R ▸ h)

/-- revetment/revetmentlaw18.square -/
def revetmentlaw18_square (p0 : Option Addr) (l0 c0 : Nat) (n1 : Int) (w : World) (R : Value → World → Prop) : Prop :=
  Alloc #[] 9 w fun k8 w1 =>
  LoopP (fun I => I [.slice (some ⟨k8, 0, none⟩) 0 0, .int .i64 0] w1) fun K vs w2 => ∃ (p5 : Option Addr) (l5 c5 : Nat), ∃ n6 : Int, vs = [.slice p5 l5 c5, .int .i64 n6] ∧
  ((decide (n6 < n1)) = true →
  Join (fun vs_1 w3 => ∃ s7 : ByteArray, vs_1 = [.string s7] ∧
  ∃ s26 : ByteArray, ∃ w4, (Instr.sliceAt 9 (.string s7) none (some (.int .i64 8)) none).run Tryz.prog w3 = .ok (.string s26) w4 ∧
  Alloc #[.string s26] 9 w4 fun k27 w5 =>
  ∃ (p28 : Option Addr) (l28 c28 : Nat), ∃ w6, (builtin .append #[22, 22] 22 #[false, false] #[.slice p5 l5 c5, .slice (some ⟨k27, 0, none⟩) 1 1]).run Tryz.prog w5 = .ok (.value (.slice p28 l28 c28)) w6 ∧
  K [.slice p28 l28 c28, .int .i64 (IntKind.i64.wrap (n6 + 1))] w6) fun J =>
  ((decide (n6 < (l0 : Int))) = true →
  ∃ a20 : Addr, p0 = some a20 ∧ (0 : Int) ≤ n6 ∧ n6 < (l0 : Int) ∧
  ∃ s21 : ByteArray, w2.cell? (Addr.add a20 (n6.toNat * 1)) = some (.string s21) ∧
  ((s21.size + (ByteArray.mk #[0, 0, 0, 0, 0, 0, 0, 0]).size : Nat) : Int) ≤ 9223372036854775807 ∧
  J [.string (s21 ++ (ByteArray.mk #[0, 0, 0, 0, 0, 0, 0, 0]))] w2) ∧
  ((decide (n6 < (l0 : Int))) = false →
  J [.string (ByteArray.mk #[0, 0, 0, 0, 0, 0, 0, 0])] w2)) ∧
  ((decide (n6 < n1)) = false →
  R (.slice p5 l5 c5) w2)
theorem revetmentlaw18_square_eq (p0 : Option Addr) (l0 c0 : Nat) (n1 : Int) (w : World) (R : Value → World → Prop) : revetmentlaw18_square p0 l0 c0 n1 w R = fnP Tryz.prog Tryz.f11 (.s .o (.s .o (.s (.s .o (.b (.l [(5, .one .slice), (6, .one (.int .i64))] (.s .o (.s (.b (.s .o (.j [(7, .one .str)] .o .o))) .o))))) .o))) [.slice p0 l0 c0, .int .i64 n1] w R := by kernel_rfl
theorem revetmentlaw18_square_calls {p0 : Option Addr} {l0 c0 : Nat} {n1 : Int} {w : World} {R : Value → World → Prop} (h : revetmentlaw18_square p0 l0 c0 n1 w R) : Calls Tryz.prog 11 #[.slice p0 l0 c0, .int .i64 n1] w fun e w1 => ∃ v, e = .returned v ∧ R v w1 := fnP_calls callable Tryz.func11 (revetmentlaw18_square_eq p0 l0 c0 n1 w R ▸ h)

/-- revetment/scrub.Repair -/
def scrub_Repair (p0 : Option Addr) (l0 c0 : Nat) (w : World) (R : Value → World → Prop) : Prop :=
  Calls Tryz.prog 14 #[.slice p0 l0 c0] w fun e w1 => ∃ n11_0 : Int, ∃ n11_1 : Int, ∃ n11_2 : Int, e = .returned (.tuple #[.int .i64 n11_0, .int .i64 n11_1, .int .i64 n11_2]) ∧
  ((n11_2 != 0) = true →
  R (.tuple #[.slice none 0 0, .int .i64 0, .int .i64 n11_2]) w1) ∧
  ((n11_2 != 0) = false →
  ((n11_0 == 0) = true →
  Calls Tryz.prog 20 #[.slice p0 l0 c0] w1 fun e_1 w2 => ∃ (p23 : Option Addr) (l23 c23 : Nat), e_1 = .returned (.slice p23 l23 c23) ∧
  R (.tuple #[.slice p23 l23 c23, .int .i64 (-1), .int .i64 0]) w2) ∧
  ((n11_0 == 0) = false →
  ((n11_0 == 2) = true →
  R (.tuple #[.slice none 0 0, .int .i64 0, .int .i64 5]) w1) ∧
  ((n11_0 == 2) = false →
  Alloc #[.int .i64 n11_1] 3 w1 fun k30 w3 =>
  Calls Tryz.prog 24 #[.slice p0 l0 c0, .slice (some ⟨k30, 0, none⟩) 1 1] w3 fun e_2 w4 => ∃ (p31_0 : Option Addr) (l31_0 c31_0 : Nat), ∃ n31_1 : Int, e_2 = .returned (.tuple #[.slice p31_0 l31_0 c31_0, .int .i64 n31_1]) ∧
  R (.tuple #[.slice p31_0 l31_0 c31_0, .int .i64 n11_1, .int .i64 n31_1]) w4)))
theorem scrub_Repair_eq (p0 : Option Addr) (l0 c0 : Nat) (w : World) (R : Value → World → Prop) : scrub_Repair p0 l0 c0 w R = fnP Tryz.prog Tryz.f12 .o [.slice p0 l0 c0] w R := by kernel_rfl
theorem scrub_Repair_calls {p0 : Option Addr} {l0 c0 : Nat} {w : World} {R : Value → World → Prop} (h : scrub_Repair p0 l0 c0 w R) : Calls Tryz.prog 12 #[.slice p0 l0 c0] w fun e w1 => ∃ v, e = .returned v ∧ R v w1 := fnP_calls callable Tryz.func12 (scrub_Repair_eq p0 l0 c0 w R ▸ h)

/-- revetment/revetmentref06.Same -/
def revetmentref06_Same (p0 : Option Addr) (l0 c0 : Nat) (p1 : Option Addr) (l1 c1 : Nat) (w : World) (R : Value → World → Prop) : Prop :=
  (((l0 : Int) != (l1 : Int)) = true →
  R (.bool false) w) ∧
  (((l0 : Int) != (l1 : Int)) = false →
  LoopP (fun I => I [.int .i64 0] w) fun K vs w1 => ∃ n5 : Int, vs = [.int .i64 n5] ∧
  ((decide (n5 < (l0 : Int))) = true →
  ∃ D : World → Prop, D w1.drew ∧
  ∃ a19 : Addr, p0 = some a19 ∧ (0 : Int) ≤ n5 ∧ n5 < (l0 : Int) ∧
  ∃ s20 : ByteArray, (∀ w, D w → w.cell? (Addr.add a19 (n5.toNat * 1)) = some (.string s20)) ∧
  ∃ a23 : Addr, p1 = some a23 ∧ (0 : Int) ≤ n5 ∧ n5 < (l1 : Int) ∧
  ∃ s24 : ByteArray, (∀ w, D w → w.cell? (Addr.add a23 (n5.toNat * 1)) = some (.string s24)) ∧
  ((!(s20.toList == s24.toList)) = true →
  R (.bool false) w1.drew) ∧
  ((!(s20.toList == s24.toList)) = false →
  K [.int .i64 (IntKind.i64.wrap (n5 + 1))] w1.drew)) ∧
  ((decide (n5 < (l0 : Int))) = false →
  R (.bool true) w1))
theorem revetmentref06_Same_eq (p0 : Option Addr) (l0 c0 : Nat) (p1 : Option Addr) (l1 c1 : Nat) (w : World) (R : Value → World → Prop) : revetmentref06_Same p0 l0 c0 p1 l1 c1 w R = fnP Tryz.prog Tryz.f13 (.s .o (.s .o (.s (.s .o (.b (.l [(5, .one (.int .i64))] .o))) .o))) [.slice p0 l0 c0, .slice p1 l1 c1] w R := by kernel_rfl
theorem revetmentref06_Same_calls {p0 : Option Addr} {l0 c0 : Nat} {p1 : Option Addr} {l1 c1 : Nat} {w : World} {R : Value → World → Prop} (h : revetmentref06_Same p0 l0 c0 p1 l1 c1 w R) : Calls Tryz.prog 13 #[.slice p0 l0 c0, .slice p1 l1 c1] w fun e w1 => ∃ v, e = .returned v ∧ R v w1 := fnP_calls callable Tryz.func13 (revetmentref06_Same_eq p0 l0 c0 p1 l1 c1 w R ▸ h)

/-- revetment/scrub.Judge -/
def scrub_Judge (p0 : Option Addr) (l0 c0 : Nat) (w : World) (R : Value → World → Prop) : Prop :=
  Alloc #[.int .i64 0] 3 w fun k2 w1 =>
  Alloc #[.int .i64 0] 3 w1 fun k3 w2 =>
  Alloc #[.int .i64 0] 25 w2 fun k4 w3 =>
  Calls Tryz.prog 23 #[.slice p0 l0 c0, .slice none 0 0] w3 fun e w4 => ∃ n13 : Int, e = .returned (.int .i64 n13) ∧
  ((n13 != 0) = true →
  St ⟨k2, 0, none⟩ (.int .i64 0) w4 fun w5 =>
  St ⟨k3, 0, none⟩ (.int .i64 0) w5 fun w6 =>
  St ⟨k4, 0, none⟩ (.int .i64 1) w6 fun w7 =>
  ∃ nr2 : Int, w7.cell? ⟨k2, 0, none⟩ = some (.int .i64 nr2) ∧
  ∃ nr3 : Int, w7.cell? ⟨k3, 0, none⟩ = some (.int .i64 nr3) ∧
  ∃ nr4 : Int, w7.cell? ⟨k4, 0, none⟩ = some (.int .i64 nr4) ∧
  R (.tuple #[.int .i64 nr2, .int .i64 nr3, .int .i64 nr4]) w7) ∧
  ((n13 != 0) = false →
  Calls Tryz.prog 25 #[.slice p0 l0 c0] w4 fun e_1 w8 => ∃ s17_0 : ByteArray, ∃ s17_1 : ByteArray, e_1 = .returned (.tuple #[.string s17_0, .string s17_1]) ∧
  Alloc #[.string (ByteArray.mk #[])] 9 w8 fun k6 w9 =>
  St ⟨k6, 0, none⟩ (.string s17_1) w9 fun w10 =>
  Join (fun vs w11 => vs = [] ∧
  Calls Tryz.prog 27 #[.string s17_0, .int .i64 (IntKind.i64.wrap ((l0 : Int) - 2))] w11 fun e_2 w12 => ∃ v41 : Value, e_2 = .returned v41 ∧
  RangeP Tryz.prog v41 (fun ob l args W Φ => ∃ n42 : Int, ∃ s43 : ByteArray, args = [.int .i64 n42, .string s43] ∧
  RoundP ob l Φ (fun K X R w13 =>
  ∃ s45 : ByteArray, w13.cell? ⟨k6, 0, none⟩ = some (.string s45) ∧
  ((s43.toList == s45.toList) = true →
  St ⟨k2, 0, none⟩ (.int .i64 1) w13 fun w14 =>
  St ⟨k3, 0, none⟩ (.int .i64 n42) w14 fun w15 =>
  St ⟨k4, 0, none⟩ (.int .i64 0) w15 fun w16 =>
  R w16) ∧
  ((s43.toList == s45.toList) = false →
  K w13)) W) []
  (fun d w17 =>
  St ⟨k2, 0, none⟩ (.int .i64 2) w17 fun w18 =>
  St ⟨k3, 0, none⟩ (.int .i64 0) w18 fun w19 =>
  St ⟨k4, 0, none⟩ (.int .i64 0) w19 fun w20 =>
  w20.heap[d]? = some (.deferred (some [])) ∧
  ∃ nr2_1 : Int, (w20.putObj d (.deferred none)).cell? ⟨k2, 0, none⟩ = some (.int .i64 nr2_1) ∧
  ∃ nr3_1 : Int, (w20.putObj d (.deferred none)).cell? ⟨k3, 0, none⟩ = some (.int .i64 nr3_1) ∧
  ∃ nr4_1 : Int, (w20.putObj d (.deferred none)).cell? ⟨k4, 0, none⟩ = some (.int .i64 nr4_1) ∧
  R (.tuple #[.int .i64 nr2_1, .int .i64 nr3_1, .int .i64 nr4_1]) (w20.putObj d (.deferred none)))
  (fun d_1 w21 =>
  w21.heap[d_1]? = some (.deferred (some [])) ∧
  ∃ nr2_2 : Int, (w21.putObj d_1 (.deferred none)).cell? ⟨k2, 0, none⟩ = some (.int .i64 nr2_2) ∧
  ∃ nr3_2 : Int, (w21.putObj d_1 (.deferred none)).cell? ⟨k3, 0, none⟩ = some (.int .i64 nr3_2) ∧
  ∃ nr4_2 : Int, (w21.putObj d_1 (.deferred none)).cell? ⟨k4, 0, none⟩ = some (.int .i64 nr4_2) ∧
  R (.tuple #[.int .i64 nr2_2, .int .i64 nr3_2, .int .i64 nr4_2]) (w21.putObj d_1 (.deferred none))) w12) fun J =>
  ∃ D : World → Prop, D w10.drew ∧
  Calls Tryz.prog 26 #[.string s17_0] w10.drew fun e_3 w22 => ∃ b24 : Bool, e_3 = .returned (.bool b24) ∧
  D w22 ∧
  ∃ s25 : ByteArray, (∀ w, D w → w.cell? ⟨k6, 0, none⟩ = some (.string s25)) ∧
  Calls Tryz.prog 26 #[.string s25] w22 fun e_4 w23 => ∃ b26 : Bool, e_4 = .returned (.bool b26) ∧
  D w23 ∧
  (b24 = true →
  (b26 = true →
  St ⟨k2, 0, none⟩ (.int .i64 0) w23 fun w24 =>
  St ⟨k3, 0, none⟩ (.int .i64 0) w24 fun w25 =>
  St ⟨k4, 0, none⟩ (.int .i64 0) w25 fun w26 =>
  ∃ nr2_3 : Int, w26.cell? ⟨k2, 0, none⟩ = some (.int .i64 nr2_3) ∧
  ∃ nr3_3 : Int, w26.cell? ⟨k3, 0, none⟩ = some (.int .i64 nr3_3) ∧
  ∃ nr4_3 : Int, w26.cell? ⟨k4, 0, none⟩ = some (.int .i64 nr4_3) ∧
  R (.tuple #[.int .i64 nr2_3, .int .i64 nr3_3, .int .i64 nr4_3]) w26) ∧
  (b26 = false →
  (b26 = true →
  St ⟨k2, 0, none⟩ (.int .i64 1) w23 fun w27 =>
  St ⟨k3, 0, none⟩ (.int .i64 (IntKind.i64.wrap ((l0 : Int) - 2))) w27 fun w28 =>
  St ⟨k4, 0, none⟩ (.int .i64 0) w28 fun w29 =>
  ∃ nr2_4 : Int, w29.cell? ⟨k2, 0, none⟩ = some (.int .i64 nr2_4) ∧
  ∃ nr3_4 : Int, w29.cell? ⟨k3, 0, none⟩ = some (.int .i64 nr3_4) ∧
  ∃ nr4_4 : Int, w29.cell? ⟨k4, 0, none⟩ = some (.int .i64 nr4_4) ∧
  R (.tuple #[.int .i64 nr2_4, .int .i64 nr3_4, .int .i64 nr4_4]) w29) ∧
  (b26 = false →
  (b24 = true →
  St ⟨k2, 0, none⟩ (.int .i64 1) w23 fun w30 =>
  St ⟨k3, 0, none⟩ (.int .i64 (IntKind.i64.wrap ((IntKind.i64.wrap ((l0 : Int) - 2)) + 1))) w30 fun w31 =>
  St ⟨k4, 0, none⟩ (.int .i64 0) w31 fun w32 =>
  ∃ nr2_5 : Int, w32.cell? ⟨k2, 0, none⟩ = some (.int .i64 nr2_5) ∧
  ∃ nr3_5 : Int, w32.cell? ⟨k3, 0, none⟩ = some (.int .i64 nr3_5) ∧
  ∃ nr4_5 : Int, w32.cell? ⟨k4, 0, none⟩ = some (.int .i64 nr4_5) ∧
  R (.tuple #[.int .i64 nr2_5, .int .i64 nr3_5, .int .i64 nr4_5]) w32) ∧
  (b24 = false →
  J [] w23)))) ∧
  (b24 = false →
  (b26 = true →
  St ⟨k2, 0, none⟩ (.int .i64 1) w23 fun w33 =>
  St ⟨k3, 0, none⟩ (.int .i64 (IntKind.i64.wrap ((l0 : Int) - 2))) w33 fun w34 =>
  St ⟨k4, 0, none⟩ (.int .i64 0) w34 fun w35 =>
  ∃ nr2_6 : Int, w35.cell? ⟨k2, 0, none⟩ = some (.int .i64 nr2_6) ∧
  ∃ nr3_6 : Int, w35.cell? ⟨k3, 0, none⟩ = some (.int .i64 nr3_6) ∧
  ∃ nr4_6 : Int, w35.cell? ⟨k4, 0, none⟩ = some (.int .i64 nr4_6) ∧
  R (.tuple #[.int .i64 nr2_6, .int .i64 nr3_6, .int .i64 nr4_6]) w35) ∧
  (b26 = false →
  (b24 = true →
  St ⟨k2, 0, none⟩ (.int .i64 1) w23 fun w36 =>
  St ⟨k3, 0, none⟩ (.int .i64 (IntKind.i64.wrap ((IntKind.i64.wrap ((l0 : Int) - 2)) + 1))) w36 fun w37 =>
  St ⟨k4, 0, none⟩ (.int .i64 0) w37 fun w38 =>
  ∃ nr2_7 : Int, w38.cell? ⟨k2, 0, none⟩ = some (.int .i64 nr2_7) ∧
  ∃ nr3_7 : Int, w38.cell? ⟨k3, 0, none⟩ = some (.int .i64 nr3_7) ∧
  ∃ nr4_7 : Int, w38.cell? ⟨k4, 0, none⟩ = some (.int .i64 nr4_7) ∧
  R (.tuple #[.int .i64 nr2_7, .int .i64 nr3_7, .int .i64 nr4_7]) w38) ∧
  (b24 = false →
  J [] w23))))
theorem scrub_Judge_eq (p0 : Option Addr) (l0 c0 : Nat) (w : World) (R : Value → World → Prop) : scrub_Judge p0 l0 c0 w R = fnP Tryz.prog Tryz.f14 (.s .o (.s .o (.s .o (.s .o (.j [] .o (.s (.s .o (.b (.rf [(42, .one (.int .i64)), (43, .one .str)] .o))) .o)))))) [.slice p0 l0 c0] w R := by kernel_rfl
theorem scrub_Judge_calls {p0 : Option Addr} {l0 c0 : Nat} {w : World} {R : Value → World → Prop} (h : scrub_Judge p0 l0 c0 w R) : Calls Tryz.prog 14 #[.slice p0 l0 c0] w fun e w1 => ∃ v, e = .returned v ∧ R v w1 := fnP_calls callable Tryz.func14 (scrub_Judge_eq p0 l0 c0 w R ▸ h)

/-- revetment/revetmentref05.Good -/
def revetmentref05_Good (p0 : Option Addr) (l0 c0 : Nat) (w : World) (R : Value → World → Prop) : Prop :=
  Calls Tryz.prog 28 #[.slice p0 l0 c0] w fun e w1 => ∃ s7_0 : ByteArray, ∃ s7_1 : ByteArray, e = .returned (.tuple #[.string s7_0, .string s7_1]) ∧
  ((decide ((l0 : Int) ≥ 2)) = true →
  Calls Tryz.prog 29 #[.string s7_0] w1 fun e_1 w2 => ∃ b15 : Bool, e_1 = .returned (.bool b15) ∧
  (b15 = true →
  Calls Tryz.prog 29 #[.string s7_1] w2 fun e_2 w3 => ∃ b19 : Bool, e_2 = .returned (.bool b19) ∧
  R (.bool b19) w3) ∧
  (b15 = false →
  R (.bool false) w2)) ∧
  ((decide ((l0 : Int) ≥ 2)) = false →
  R (.bool false) w1)
theorem revetmentref05_Good_eq (p0 : Option Addr) (l0 c0 : Nat) (w : World) (R : Value → World → Prop) : revetmentref05_Good p0 l0 c0 w R = fnP Tryz.prog Tryz.f15 .o [.slice p0 l0 c0] w R := by kernel_rfl
theorem revetmentref05_Good_calls {p0 : Option Addr} {l0 c0 : Nat} {w : World} {R : Value → World → Prop} (h : revetmentref05_Good p0 l0 c0 w R) : Calls Tryz.prog 15 #[.slice p0 l0 c0] w fun e w1 => ∃ v, e = .returned v ∧ R v w1 := fnP_calls callable Tryz.func15 (revetmentref05_Good_eq p0 l0 c0 w R ▸ h)

/-- revetment/revetmentref18.Judge -/
def revetmentref18_Judge (p0 : Option Addr) (l0 c0 : Nat) (w : World) (R : Value → World → Prop) : Prop :=
  Calls Tryz.prog 30 #[.slice p0 l0 c0, .slice none 0 0] w fun e w1 => ∃ n10 : Int, e = .returned (.int .i64 n10) ∧
  ((n10 != 0) = true →
  R (.tuple #[.int .i64 0, .int .i64 0, .int .i64 1]) w1) ∧
  ((n10 != 0) = false →
  Calls Tryz.prog 28 #[.slice p0 l0 c0] w1 fun e_1 w2 => ∃ s14_0 : ByteArray, ∃ s14_1 : ByteArray, e_1 = .returned (.tuple #[.string s14_0, .string s14_1]) ∧
  Join (fun vs w3 => vs = [] ∧
  LoopP (fun I => I [.int .i64 0] w3) fun K vs_1 w4 => ∃ n8 : Int, vs_1 = [.int .i64 n8] ∧
  ((decide (n8 < (IntKind.i64.wrap ((l0 : Int) - 2)))) = true →
  Calls Tryz.prog 32 #[.int .i64 n8] w4 fun e_2 w5 => ∃ n43 : Int, e_2 = .returned (.int .u8 n43) ∧
  Calls Tryz.prog 31 #[.string s14_0, .int .u8 n43] w5 fun e_3 w6 => ∃ s44 : ByteArray, e_3 = .returned (.string s44) ∧
  ((s44.toList == s14_1.toList) = true →
  R (.tuple #[.int .i64 1, .int .i64 n8, .int .i64 0]) w6) ∧
  ((s44.toList == s14_1.toList) = false →
  K [.int .i64 (IntKind.i64.wrap (n8 + 1))] w6)) ∧
  ((decide (n8 < (IntKind.i64.wrap ((l0 : Int) - 2)))) = false →
  R (.tuple #[.int .i64 2, .int .i64 0, .int .i64 0]) w4)) fun J =>
  Calls Tryz.prog 29 #[.string s14_0] w2 fun e_4 w7 => ∃ b22 : Bool, e_4 = .returned (.bool b22) ∧
  (b22 = true →
  Calls Tryz.prog 29 #[.string s14_1] w7 fun e_5 w8 => ∃ b25 : Bool, e_5 = .returned (.bool b25) ∧
  (b25 = true →
  R (.tuple #[.int .i64 0, .int .i64 0, .int .i64 0]) w8) ∧
  (b25 = false →
  Calls Tryz.prog 29 #[.string s14_1] w8 fun e_6 w9 => ∃ b29 : Bool, e_6 = .returned (.bool b29) ∧
  (b29 = true →
  R (.tuple #[.int .i64 1, .int .i64 (IntKind.i64.wrap ((l0 : Int) - 2)), .int .i64 0]) w9) ∧
  (b29 = false →
  Calls Tryz.prog 29 #[.string s14_0] w9 fun e_7 w10 => ∃ b33 : Bool, e_7 = .returned (.bool b33) ∧
  (b33 = true →
  R (.tuple #[.int .i64 1, .int .i64 (IntKind.i64.wrap ((IntKind.i64.wrap ((l0 : Int) - 2)) + 1)), .int .i64 0]) w10) ∧
  (b33 = false →
  J [] w10)))) ∧
  (b22 = false →
  Calls Tryz.prog 29 #[.string s14_1] w7 fun e_8 w11 => ∃ b29_1 : Bool, e_8 = .returned (.bool b29_1) ∧
  (b29_1 = true →
  R (.tuple #[.int .i64 1, .int .i64 (IntKind.i64.wrap ((l0 : Int) - 2)), .int .i64 0]) w11) ∧
  (b29_1 = false →
  Calls Tryz.prog 29 #[.string s14_0] w11 fun e_9 w12 => ∃ b33_1 : Bool, e_9 = .returned (.bool b33_1) ∧
  (b33_1 = true →
  R (.tuple #[.int .i64 1, .int .i64 (IntKind.i64.wrap ((IntKind.i64.wrap ((l0 : Int) - 2)) + 1)), .int .i64 0]) w12) ∧
  (b33_1 = false →
  J [] w12))))
theorem revetmentref18_Judge_eq (p0 : Option Addr) (l0 c0 : Nat) (w : World) (R : Value → World → Prop) : revetmentref18_Judge p0 l0 c0 w R = fnP Tryz.prog Tryz.f16 (.s .o (.s .o (.s .o (.s .o (.j [] .o (.s (.s .o (.b (.l [(8, .one (.int .i64))] .o))) .o)))))) [.slice p0 l0 c0] w R := by kernel_rfl
theorem revetmentref18_Judge_calls {p0 : Option Addr} {l0 c0 : Nat} {w : World} {R : Value → World → Prop} (h : revetmentref18_Judge p0 l0 c0 w R) : Calls Tryz.prog 16 #[.slice p0 l0 c0] w fun e w1 => ∃ v, e = .returned v ∧ R v w1 := fnP_calls callable Tryz.func16 (revetmentref18_Judge_eq p0 l0 c0 w R ▸ h)

/-- revetment/revetmentref18.Repair -/
def revetmentref18_Repair (p0 : Option Addr) (l0 c0 : Nat) (w : World) (R : Value → World → Prop) : Prop :=
  Calls Tryz.prog 16 #[.slice p0 l0 c0] w fun e w1 => ∃ n12_0 : Int, ∃ n12_1 : Int, ∃ n12_2 : Int, e = .returned (.tuple #[.int .i64 n12_0, .int .i64 n12_1, .int .i64 n12_2]) ∧
  ((n12_2 != 0) = true →
  R (.tuple #[.slice none 0 0, .int .i64 0, .int .i64 n12_2]) w1) ∧
  ((n12_2 != 0) = false →
  ((n12_0 == 0) = true →
  R (.tuple #[.slice p0 l0 c0, .int .i64 (-1), .int .i64 0]) w1) ∧
  ((n12_0 == 0) = false →
  ((n12_0 == 2) = true →
  R (.tuple #[.slice none 0 0, .int .i64 0, .int .i64 5]) w1) ∧
  ((n12_0 == 2) = false →
  Alloc #[.int .i64 n12_1] 3 w1 fun k30 w2 =>
  Calls Tryz.prog 33 #[.slice p0 l0 c0, .slice (some ⟨k30, 0, none⟩) 1 1] w2 fun e_1 w3 => ∃ (p31_0 : Option Addr) (l31_0 c31_0 : Nat), ∃ n31_1 : Int, e_1 = .returned (.tuple #[.slice p31_0 l31_0 c31_0, .int .i64 n31_1]) ∧
  R (.tuple #[.slice p31_0 l31_0 c31_0, .int .i64 n12_1, .int .i64 0]) w3)))
theorem revetmentref18_Repair_eq (p0 : Option Addr) (l0 c0 : Nat) (w : World) (R : Value → World → Prop) : revetmentref18_Repair p0 l0 c0 w R = fnP Tryz.prog Tryz.f17 .o [.slice p0 l0 c0] w R := by kernel_rfl
theorem revetmentref18_Repair_calls {p0 : Option Addr} {l0 c0 : Nat} {w : World} {R : Value → World → Prop} (h : revetmentref18_Repair p0 l0 c0 w R) : Calls Tryz.prog 17 #[.slice p0 l0 c0] w fun e w1 => ∃ v, e = .returned v ∧ R v w1 := fnP_calls callable Tryz.func17 (revetmentref18_Repair_eq p0 l0 c0 w R ▸ h)

/-- revetment/scrub.Parity -/
def scrub_Parity (p0 : Option Addr) (l0 c0 : Nat) (w : World) (R : Value → World → Prop) : Prop :=
  Alloc #[.slice p0 l0 c0] 22 w fun k1 w1 =>
  ∃ (p5 : Option Addr) (l5 c5 : Nat), w1.cell? ⟨k1, 0, none⟩ = some (.slice p5 l5 c5) ∧
  Calls Tryz.prog 23 #[.slice p5 l5 c5, .slice none 0 0] w1 fun e w2 => ∃ n6 : Int, e = .returned (.int .i64 n6) ∧
  ((n6 != 0) = true →
  R (.tuple #[.slice none 0 0, .int .i64 1]) w2) ∧
  ((n6 != 0) = false →
  Calls Tryz.prog 34 #[.pointer (some ⟨k1, 0, none⟩)] w2 fun e_1 w3 => ∃ (p10 : Option Addr) (l10 c10 : Nat), e_1 = .returned (.slice p10 l10 c10) ∧
  Calls Tryz.prog 10 #[.slice p10 l10 c10] w3 fun e_2 w4 => ∃ (p11_0 : Option Addr) (l11_0 c11_0 : Nat), ∃ n11_1 : Int, e_2 = .returned (.tuple #[.slice p11_0 l11_0 c11_0, .int .i64 n11_1]) ∧
  R (.tuple #[.slice p11_0 l11_0 c11_0, .int .i64 n11_1]) w4)
theorem scrub_Parity_eq (p0 : Option Addr) (l0 c0 : Nat) (w : World) (R : Value → World → Prop) : scrub_Parity p0 l0 c0 w R = fnP Tryz.prog Tryz.f18 .o [.slice p0 l0 c0] w R := by kernel_rfl
theorem scrub_Parity_calls {p0 : Option Addr} {l0 c0 : Nat} {w : World} {R : Value → World → Prop} (h : scrub_Parity p0 l0 c0 w R) : Calls Tryz.prog 18 #[.slice p0 l0 c0] w fun e w1 => ∃ v, e = .returned v ∧ R v w1 := fnP_calls callable Tryz.func18 (scrub_Parity_eq p0 l0 c0 w R ▸ h)

/-- revetment/revetmentref18.Parity -/
def revetmentref18_Parity (p0 : Option Addr) (l0 c0 : Nat) (w : World) (R : Value → World → Prop) : Prop :=
  Calls Tryz.prog 30 #[.slice p0 l0 c0, .slice none 0 0] w fun e w1 => ∃ n6 : Int, e = .returned (.int .i64 n6) ∧
  ((n6 != 0) = true →
  R (.tuple #[.slice none 0 0, .int .i64 1]) w1) ∧
  ((n6 != 0) = false →
  ∃ (p13 : Option Addr) (l13 c13 : Nat), ∃ w2, (Instr.sliceAt 22 (.slice p0 l0 c0) none (some (.int .i64 (IntKind.i64.wrap ((l0 : Int) - 2)))) none).run Tryz.prog w1 = .ok (.slice p13 l13 c13) w2 ∧
  Calls Tryz.prog 35 #[.slice p13 l13 c13] w2 fun e_1 w3 => ∃ (p14_0 : Option Addr) (l14_0 c14_0 : Nat), ∃ n14_1 : Int, e_1 = .returned (.tuple #[.slice p14_0 l14_0 c14_0, .int .i64 n14_1]) ∧
  R (.tuple #[.slice p14_0 l14_0 c14_0, .int .i64 n14_1]) w3)
theorem revetmentref18_Parity_eq (p0 : Option Addr) (l0 c0 : Nat) (w : World) (R : Value → World → Prop) : revetmentref18_Parity p0 l0 c0 w R = fnP Tryz.prog Tryz.f19 .o [.slice p0 l0 c0] w R := by kernel_rfl
theorem revetmentref18_Parity_calls {p0 : Option Addr} {l0 c0 : Nat} {w : World} {R : Value → World → Prop} (h : revetmentref18_Parity p0 l0 c0 w R) : Calls Tryz.prog 19 #[.slice p0 l0 c0] w fun e w1 => ∃ v, e = .returned v ∧ R v w1 := fnP_calls callable Tryz.func19 (revetmentref18_Parity_eq p0 l0 c0 w R ▸ h)

/-- revetment/syndrome.P -/
def syndrome_P (p0 : Option Addr) (l0 c0 : Nat) (w : World) (R : Value → World → Prop) : Prop :=
  Calls Tryz.prog 36 #[.slice p0 l0 c0] w fun e w1 => ∃ s4 : ByteArray, e = .returned (.string s4) ∧
  R (.string s4) w1
theorem syndrome_P_eq (p0 : Option Addr) (l0 c0 : Nat) (w : World) (R : Value → World → Prop) : syndrome_P p0 l0 c0 w R = fnP Tryz.prog Tryz.f21 .o [.slice p0 l0 c0] w R := by kernel_rfl
theorem syndrome_P_calls {p0 : Option Addr} {l0 c0 : Nat} {w : World} {R : Value → World → Prop} (h : syndrome_P p0 l0 c0 w R) : Calls Tryz.prog 21 #[.slice p0 l0 c0] w fun e w1 => ∃ v, e = .returned v ∧ R v w1 := fnP_calls callable Tryz.func21 (syndrome_P_eq p0 l0 c0 w R ▸ h)

/-- revetment/syndrome.Q -/
def syndrome_Q (p0 : Option Addr) (l0 c0 : Nat) (w : World) (R : Value → World → Prop) : Prop :=
  Alloc #[.slice p0 l0 c0] 22 w fun k1 w1 =>
  Alloc #[.string (ByteArray.mk #[])] 9 w1 fun k3 w2 =>
  Calls Tryz.prog 37 #[] w2 fun e w3 => ∃ v5 : Value, e = .returned v5 ∧
  RangeP Tryz.prog v5 (fun ob l args W Φ => ∃ n6 : Int, args = [.int .u8 n6] ∧
  RoundP ob l Φ (fun K X R w4 =>
  ∃ (p7 : Option Addr) (l7 c7 : Nat), w4.cell? ⟨k1, 0, none⟩ = some (.slice p7 l7 c7) ∧
  (((l7 : Int) == 0) = true →
  X 0 w4) ∧
  (((l7 : Int) == 0) = false →
  ∃ D : World → Prop, D w4.drew ∧
  ∃ s10 : ByteArray, (∀ w, D w → w.cell? ⟨k3, 0, none⟩ = some (.string s10)) ∧
  ∃ (p11 : Option Addr) (l11 c11 : Nat), (∀ w, D w → w.cell? ⟨k1, 0, none⟩ = some (.slice p11 l11 c11)) ∧
  ∃ a12 : Addr, p11 = some a12 ∧ (0 : Int) ≤ 0 ∧ 0 < (l11 : Int) ∧
  ∃ s13 : ByteArray, (∀ w, D w → w.cell? a12 = some (.string s13)) ∧
  Calls Tryz.prog 38 #[.string s13, .int .u8 n6] w4.drew fun e_1 w5 => ∃ s15 : ByteArray, e_1 = .returned (.string s15) ∧
  D w5 ∧
  Alloc #[.string s10, .string s15] 9 w5 fun k16 w6 =>
  D w6 ∧
  Calls Tryz.prog 36 #[.slice (some ⟨k16, 0, none⟩) 2 2] w6 fun e_2 w7 => ∃ s17 : ByteArray, e_2 = .returned (.string s17) ∧
  D w7 ∧
  St ⟨k3, 0, none⟩ (.string s17) w7 fun w8 =>
  ∃ (p18 : Option Addr) (l18 c18 : Nat), w8.cell? ⟨k1, 0, none⟩ = some (.slice p18 l18 c18) ∧
  ∃ (p19 : Option Addr) (l19 c19 : Nat), ∃ w9, (Instr.sliceAt 22 (.slice p18 l18 c18) (some (.int .i64 1)) none none).run Tryz.prog w8 = .ok (.slice p19 l19 c19) w9 ∧
  St ⟨k1, 0, none⟩ (.slice p19 l19 c19) w9 fun w10 =>
  K w10)) W) [(0, fun d w11 =>
  ∃ s20 : ByteArray, w11.cell? ⟨k3, 0, none⟩ = some (.string s20) ∧
  w11.heap[d]? = some (.deferred (some [])) ∧
  R (.string s20) (w11.putObj d (.deferred none)))]
  (fun d_1 w12 =>
  ∃ s20_1 : ByteArray, w12.cell? ⟨k3, 0, none⟩ = some (.string s20_1) ∧
  w12.heap[d_1]? = some (.deferred (some [])) ∧
  R (.string s20_1) (w12.putObj d_1 (.deferred none)))
  (fun d_2 w13 =>
  w13.heap[d_2]? = some (.deferred (some [])) ∧
  R (.string (ByteArray.mk #[])) (w13.putObj d_2 (.deferred none))) w3
theorem syndrome_Q_eq (p0 : Option Addr) (l0 c0 : Nat) (w : World) (R : Value → World → Prop) : syndrome_Q p0 l0 c0 w R = fnP Tryz.prog Tryz.f22 (.s .o (.s .o (.s (.s .o (.b (.rf [(6, .one (.int .u8))] .o))) .o))) [.slice p0 l0 c0] w R := by kernel_rfl
theorem syndrome_Q_calls {p0 : Option Addr} {l0 c0 : Nat} {w : World} {R : Value → World → Prop} (h : syndrome_Q p0 l0 c0 w R) : Calls Tryz.prog 22 #[.slice p0 l0 c0] w fun e w1 => ∃ v, e = .returned v ∧ R v w1 := fnP_calls callable Tryz.func22 (syndrome_Q_eq p0 l0 c0 w R ▸ h)

/-- revetment/refill.May -/
def refill_May (p0 : Option Addr) (l0 c0 : Nat) (p1 : Option Addr) (l1 c1 : Nat) (w : World) (R : Value → World → Prop) : Prop :=
  ((decide ((l0 : Int) < 4)) = true →
  R (.int .i64 1) w) ∧
  ((decide ((l0 : Int) < 4)) = false →
  ((decide ((l0 : Int) > 10)) = true →
  R (.int .i64 1) w) ∧
  ((decide ((l0 : Int) > 10)) = false →
  ∃ (p21 : Option Addr) (l21 c21 : Nat), ∃ w1, (Instr.makeSlice 58 (.int .i64 (l0 : Int)) (.int .i64 (l0 : Int))).run Tryz.prog w = .ok (.slice p21 l21 c21) w1 ∧
  LoopP (fun I => I [.int .i64 0] w1) fun K vs w2 => ∃ n24 : Int, vs = [.int .i64 n24] ∧
  ((decide (n24 < (l1 : Int))) = true →
  ∃ a26 : Addr, p1 = some a26 ∧ (0 : Int) ≤ n24 ∧ n24 < (l1 : Int) ∧
  ∃ n27 : Int, w2.cell? (Addr.add a26 (n24.toNat * 1)) = some (.int .i64 n27) ∧
  ((decide (n27 < 0)) = true →
  R (.int .i64 1) w2) ∧
  ((decide (n27 < 0)) = false →
  ((decide (n27 ≥ (l0 : Int))) = true →
  R (.int .i64 1) w2) ∧
  ((decide (n27 ≥ (l0 : Int))) = false →
  ∃ a39 : Addr, p21 = some a39 ∧ (0 : Int) ≤ n27 ∧ n27 < (l21 : Int) ∧
  ∃ b40 : Bool, w2.cell? (Addr.add a39 (n27.toNat * 1)) = some (.bool b40) ∧
  (b40 = true →
  R (.int .i64 1) w2) ∧
  (b40 = false →
  ∃ a44 : Addr, p21 = some a44 ∧ (0 : Int) ≤ n27 ∧ n27 < (l21 : Int) ∧
  St (Addr.add a44 (n27.toNat * 1)) (.bool true) w2 fun w3 =>
  K [.int .i64 (IntKind.i64.wrap (n24 + 1))] w3)))) ∧
  ((decide (n24 < (l1 : Int))) = false →
  LoopP (fun I_1 => I_1 [.int .i64 (-1), .int .i64 0] w2) fun K_1 vs_1 w4 => ∃ n8 : Int, ∃ n48 : Int, vs_1 = [.int .i64 n8, .int .i64 n48] ∧
  ((decide (n48 < (l0 : Int))) = true →
  ∃ a51 : Addr, p0 = some a51 ∧ (0 : Int) ≤ n48 ∧ n48 < (l0 : Int) ∧
  ∃ s52 : ByteArray, w4.cell? (Addr.add a51 (n48.toNat * 1)) = some (.string s52) ∧
  ∃ a58 : Addr, p21 = some a58 ∧ (0 : Int) ≤ n48 ∧ n48 < (l21 : Int) ∧
  ∃ b59 : Bool, w4.cell? (Addr.add a58 (n48.toNat * 1)) = some (.bool b59) ∧
  (b59 = true →
  K_1 [.int .i64 n8, .int .i64 (IntKind.i64.wrap (n48 + 1))] w4) ∧
  (b59 = false →
  Join (fun vs_2 w5 => ∃ b60 : Bool, vs_2 = [.bool b60] ∧
  (b60 = true →
  R (.int .i64 1) w5) ∧
  (b60 = false →
  K_1 [.int .i64 (s52.size : Int), .int .i64 (IntKind.i64.wrap (n48 + 1))] w5)) fun J =>
  ((decide (n8 ≥ 0)) = true →
  (((s52.size : Int) != n8) = true →
  J [.bool true] w4) ∧
  (((s52.size : Int) != n8) = false →
  J [.bool (decide ((s52.size : Int) > 4096))] w4)) ∧
  ((decide (n8 ≥ 0)) = false →
  J [.bool (decide ((s52.size : Int) > 4096))] w4))) ∧
  ((decide (n48 < (l0 : Int))) = false →
  ((decide ((l1 : Int) > 2)) = true →
  R (.int .i64 60) w4) ∧
  ((decide ((l1 : Int) > 2)) = false →
  R (.int .i64 0) w4)))))
theorem refill_May_eq (p0 : Option Addr) (l0 c0 : Nat) (p1 : Option Addr) (l1 c1 : Nat) (w : World) (R : Value → World → Prop) : refill_May p0 l0 c0 p1 l1 c1 w R = fnP Tryz.prog Tryz.f23 (.s .o (.s .o (.s .o (.s (.s .o (.b (.l [(24, .one (.int .i64))] .o))) (.s .o (.s (.s .o (.b (.l [(8, .one (.int .i64)), (48, .one (.int .i64))] (.s .o (.s .o (.s (.b (.s .o (.b (.s .o (.c .o (.j [(60, .one .bool)] .o .o)))))) .o)))))) .o)))))) [.slice p0 l0 c0, .slice p1 l1 c1] w R := by kernel_rfl
theorem refill_May_calls {p0 : Option Addr} {l0 c0 : Nat} {p1 : Option Addr} {l1 c1 : Nat} {w : World} {R : Value → World → Prop} (h : refill_May p0 l0 c0 p1 l1 c1 w R) : Calls Tryz.prog 23 #[.slice p0 l0 c0, .slice p1 l1 c1] w fun e w1 => ∃ v, e = .returned v ∧ R v w1 := fnP_calls callable Tryz.func23 (refill_May_eq p0 l0 c0 p1 l1 c1 w R ▸ h)

/-- revetment/refill.Fill -/
def refill_Fill (p0 : Option Addr) (l0 c0 : Nat) (p1 : Option Addr) (l1 c1 : Nat) (w : World) (R : Value → World → Prop) : Prop :=
  Calls Tryz.prog 23 #[.slice p0 l0 c0, .slice p1 l1 c1] w fun e w1 => ∃ n20 : Int, e = .returned (.int .i64 n20) ∧
  ((n20 != 0) = true →
  R (.tuple #[.slice none 0 0, .int .i64 n20]) w1) ∧
  ((n20 != 0) = false →
  Calls Tryz.prog 40 #[.slice p1 l1 c1] w1 fun e_1 w2 => ∃ v25 : Value, e_1 = .returned v25 ∧
  Calls Tryz.prog 39 #[v25] w2 fun e_2 w3 => ∃ (p26 : Option Addr) (l26 c26 : Nat), e_2 = .returned (.slice p26 l26 c26) ∧
  Calls Tryz.prog 20 #[.slice p0 l0 c0] w3 fun e_3 w4 => ∃ (p28 : Option Addr) (l28 c28 : Nat), e_3 = .returned (.slice p28 l28 c28) ∧
  Alloc #[.slice none 0 0, .int .i64 0] 64 w4 fun k8 w5 =>
  St ⟨k8, 0, none⟩ (.slice p28 l28 c28) w5 fun w6 =>
  St ⟨k8, 1, none⟩ (.int .i64 (IntKind.i64.wrap ((l0 : Int) - 2))) w6 fun w7 =>
  LoopP (fun I => I [.int .i64 0, .int .i64 0] w7) fun K vs w8 => ∃ n9 : Int, ∃ n35 : Int, vs = [.int .i64 n9, .int .i64 n35] ∧
  ((decide (n35 < (l0 : Int))) = true →
  ∃ a38 : Addr, p0 = some a38 ∧ (0 : Int) ≤ n35 ∧ n35 < (l0 : Int) ∧
  ∃ s39 : ByteArray, w8.cell? (Addr.add a38 (n35.toNat * 1)) = some (.string s39) ∧
  Calls Tryz.prog 41 #[.slice p26 l26 c26, .int .i64 n35] w8 fun e_4 w9 => ∃ b42 : Bool, e_4 = .returned (.bool b42) ∧
  ((!b42) = true →
  K [.int .i64 (s39.size : Int), .int .i64 (IntKind.i64.wrap (n35 + 1))] w9) ∧
  ((!b42) = false →
  K [.int .i64 n9, .int .i64 (IntKind.i64.wrap (n35 + 1))] w9)) ∧
  ((decide (n35 < (l0 : Int))) = false →
  LoopP (fun I_1 => I_1 [.int .i64 0] w8) fun K_1 vs_1 w10 => ∃ n49 : Int, vs_1 = [.int .i64 n49] ∧
  ((decide (n49 < (l26 : Int))) = true →
  ∃ a51 : Addr, p26 = some a51 ∧ (0 : Int) ≤ n49 ∧ n49 < (l26 : Int) ∧
  ∃ n52 : Int, w10.cell? (Addr.add a51 (n49.toNat * 1)) = some (.int .i64 n52) ∧
  ∃ D : World → Prop, D w10.drew ∧
  ∃ (p54 : Option Addr) (l54 c54 : Nat), (∀ w, D w → w.cell? ⟨k8, 0, none⟩ = some (.slice p54 l54 c54)) ∧
  Calls Tryz.prog 42 #[.string (ByteArray.mk #[0]), .int .i64 n9] w10.drew fun e_5 w11 => ∃ s57 : ByteArray, e_5 = .returned (.string s57) ∧
  D w11 ∧
  ∃ a58 : Addr, p54 = some a58 ∧ (0 : Int) ≤ n52 ∧ n52 < (l54 : Int) ∧
  St (Addr.add a58 (n52.toNat * 1)) (.string s57) w11 fun w12 =>
  K_1 [.int .i64 (IntKind.i64.wrap (n49 + 1))] w12) ∧
  ((decide (n49 < (l26 : Int))) = false →
  Alloc #[.int .i64 0, .int .i64 0] 67 w10 fun k14 w13 =>
  LoopP (fun I_2 => I_2 [.int .i64 0] w13) fun K_2 vs_2 w14 => ∃ n62 : Int, vs_2 = [.int .i64 n62] ∧
  ((decide (n62 < (l26 : Int))) = true →
  ∃ a65 : Addr, p26 = some a65 ∧ (0 : Int) ≤ n62 ∧ n62 < (l26 : Int) ∧
  ∃ n66 : Int, w14.cell? (Addr.add a65 (n62.toNat * 1)) = some (.int .i64 n66) ∧
  ∃ (p68_0 : Option Addr) (l68_0 c68_0 : Nat), ∃ n68_1 : Int, (w14.cell? ⟨k8, 0, none⟩ = some (.slice p68_0 l68_0 c68_0) ∧ w14.cell? ⟨k8, 1, none⟩ = some (.int .i64 n68_1)) ∧
  Calls Tryz.prog 43 #[.agg #[.slice p68_0 l68_0 c68_0, .int .i64 n68_1], .int .i64 n66] w14 fun e_6 w15 => ∃ n70 : Int, e_6 = .returned (.int .i64 n70) ∧
  (0 : Int) ≤ n62 ∧ n62 < (2 : Int) ∧
  St (Addr.add ⟨k14, 0, none⟩ (n62.toNat * 1)) (.int .i64 n70) w15 fun w16 =>
  K_2 [.int .i64 (IntKind.i64.wrap (n62 + 1))] w16) ∧
  ((decide (n62 < (l26 : Int))) = false →
  Join (fun vs_3 w17 => vs_3 = [] ∧
  ∃ (p136 : Option Addr) (l136 c136 : Nat), w17.cell? ⟨k8, 0, none⟩ = some (.slice p136 l136 c136) ∧
  R (.tuple #[.slice p136 l136 c136, .int .i64 0]) w17) fun J =>
  ∃ n75_0 : Int, ∃ n75_1 : Int, (w14.cell? ⟨k14, 0, none⟩ = some (.int .i64 n75_0) ∧ w14.cell? ⟨k14, 1, none⟩ = some (.int .i64 n75_1)) ∧
  ∃ b77 : Bool, ∃ w18, (do eqGuard .eql 67 (.tmp 75) (.tmp 76) (.agg #[.int .i64 n75_0, .int .i64 n75_1]) (.agg #[.int .i64 1, .int .i64 1]); binOp .eql 67 (.agg #[.int .i64 n75_0, .int .i64 n75_1]) (.agg #[.int .i64 1, .int .i64 1]) : Sem Value).run Tryz.prog w14 = .ok (.bool b77) w18 ∧
  (b77 = true →
  ∃ D_1 : World → Prop, D_1 w18.drew ∧
  ∃ (p102_0 : Option Addr) (l102_0 c102_0 : Nat), ∃ n102_1 : Int, (∀ w, D_1 w → w.cell? ⟨k8, 0, none⟩ = some (.slice p102_0 l102_0 c102_0) ∧ w.cell? ⟨k8, 1, none⟩ = some (.int .i64 n102_1)) ∧
  ∃ a104 : Addr, p26 = some a104 ∧ (0 : Int) ≤ 0 ∧ 0 < (l26 : Int) ∧
  ∃ n105 : Int, (∀ w, D_1 w → w.cell? a104 = some (.int .i64 n105)) ∧
  ∃ a107 : Addr, p26 = some a107 ∧ (0 : Int) ≤ 1 ∧ 1 < (l26 : Int) ∧
  ∃ n108 : Int, (∀ w, D_1 w → w.cell? (a107.add 1) = some (.int .i64 n108)) ∧
  Calls Tryz.prog 45 #[.agg #[.slice p102_0 l102_0 c102_0, .int .i64 n102_1], .int .i64 n105, .int .i64 n108] w18.drew fun e_7 w19 => e_7 = .returned (.tuple #[]) ∧
  J [] w19) ∧
  (b77 = false →
  ∃ n79_0 : Int, ∃ n79_1 : Int, (w18.cell? ⟨k14, 0, none⟩ = some (.int .i64 n79_0) ∧ w18.cell? ⟨k14, 1, none⟩ = some (.int .i64 n79_1)) ∧
  ∃ b81 : Bool, ∃ w20, (do eqGuard .eql 67 (.tmp 79) (.tmp 80) (.agg #[.int .i64 n79_0, .int .i64 n79_1]) (.agg #[.int .i64 1, .int .i64 2]); binOp .eql 67 (.agg #[.int .i64 n79_0, .int .i64 n79_1]) (.agg #[.int .i64 1, .int .i64 2]) : Sem Value).run Tryz.prog w18 = .ok (.bool b81) w20 ∧
  (b81 = true →
  ∃ D_2 : World → Prop, D_2 w20.drew ∧
  ∃ (p110_0 : Option Addr) (l110_0 c110_0 : Nat), ∃ n110_1 : Int, (∀ w, D_2 w → w.cell? ⟨k8, 0, none⟩ = some (.slice p110_0 l110_0 c110_0) ∧ w.cell? ⟨k8, 1, none⟩ = some (.int .i64 n110_1)) ∧
  ∃ a112 : Addr, p26 = some a112 ∧ (0 : Int) ≤ 0 ∧ 0 < (l26 : Int) ∧
  ∃ n113 : Int, (∀ w, D_2 w → w.cell? a112 = some (.int .i64 n113)) ∧
  Calls Tryz.prog 46 #[.agg #[.slice p110_0 l110_0 c110_0, .int .i64 n110_1], .int .i64 n113] w20.drew fun e_8 w21 => e_8 = .returned (.tuple #[]) ∧
  Calls Tryz.prog 44 #[.bool true, .bool false, .pointer (some ⟨k8, 0, none⟩)] w21 fun e_9 w22 => e_9 = .returned (.tuple #[]) ∧
  J [] w22) ∧
  (b81 = false →
  ∃ n83_0 : Int, ∃ n83_1 : Int, (w20.cell? ⟨k14, 0, none⟩ = some (.int .i64 n83_0) ∧ w20.cell? ⟨k14, 1, none⟩ = some (.int .i64 n83_1)) ∧
  ∃ b85 : Bool, ∃ w23, (do eqGuard .eql 67 (.tmp 83) (.tmp 84) (.agg #[.int .i64 n83_0, .int .i64 n83_1]) (.agg #[.int .i64 1, .int .i64 3]); binOp .eql 67 (.agg #[.int .i64 n83_0, .int .i64 n83_1]) (.agg #[.int .i64 1, .int .i64 3]) : Sem Value).run Tryz.prog w20 = .ok (.bool b85) w23 ∧
  (b85 = true →
  ∃ D_3 : World → Prop, D_3 w23.drew ∧
  ∃ (p117_0 : Option Addr) (l117_0 c117_0 : Nat), ∃ n117_1 : Int, (∀ w, D_3 w → w.cell? ⟨k8, 0, none⟩ = some (.slice p117_0 l117_0 c117_0) ∧ w.cell? ⟨k8, 1, none⟩ = some (.int .i64 n117_1)) ∧
  ∃ a119 : Addr, p26 = some a119 ∧ (0 : Int) ≤ 0 ∧ 0 < (l26 : Int) ∧
  ∃ n120 : Int, (∀ w, D_3 w → w.cell? a119 = some (.int .i64 n120)) ∧
  Calls Tryz.prog 47 #[.agg #[.slice p117_0 l117_0 c117_0, .int .i64 n117_1], .int .i64 n120] w23.drew fun e_10 w24 => e_10 = .returned (.tuple #[]) ∧
  Calls Tryz.prog 44 #[.bool false, .bool true, .pointer (some ⟨k8, 0, none⟩)] w24 fun e_11 w25 => e_11 = .returned (.tuple #[]) ∧
  J [] w25) ∧
  (b85 = false →
  ∃ n87_0 : Int, ∃ n87_1 : Int, (w23.cell? ⟨k14, 0, none⟩ = some (.int .i64 n87_0) ∧ w23.cell? ⟨k14, 1, none⟩ = some (.int .i64 n87_1)) ∧
  ∃ b89 : Bool, ∃ w26, (do eqGuard .eql 67 (.tmp 87) (.tmp 88) (.agg #[.int .i64 n87_0, .int .i64 n87_1]) (.agg #[.int .i64 1, .int .i64 0]); binOp .eql 67 (.agg #[.int .i64 n87_0, .int .i64 n87_1]) (.agg #[.int .i64 1, .int .i64 0]) : Sem Value).run Tryz.prog w23 = .ok (.bool b89) w26 ∧
  (b89 = true →
  ∃ D_4 : World → Prop, D_4 w26.drew ∧
  ∃ (p124_0 : Option Addr) (l124_0 c124_0 : Nat), ∃ n124_1 : Int, (∀ w, D_4 w → w.cell? ⟨k8, 0, none⟩ = some (.slice p124_0 l124_0 c124_0) ∧ w.cell? ⟨k8, 1, none⟩ = some (.int .i64 n124_1)) ∧
  ∃ a126 : Addr, p26 = some a126 ∧ (0 : Int) ≤ 0 ∧ 0 < (l26 : Int) ∧
  ∃ n127 : Int, (∀ w, D_4 w → w.cell? a126 = some (.int .i64 n127)) ∧
  Calls Tryz.prog 47 #[.agg #[.slice p124_0 l124_0 c124_0, .int .i64 n124_1], .int .i64 n127] w26.drew fun e_12 w27 => e_12 = .returned (.tuple #[]) ∧
  J [] w27) ∧
  (b89 = false →
  ∃ n91_0 : Int, ∃ n91_1 : Int, (w26.cell? ⟨k14, 0, none⟩ = some (.int .i64 n91_0) ∧ w26.cell? ⟨k14, 1, none⟩ = some (.int .i64 n91_1)) ∧
  ∃ b93 : Bool, ∃ w28, (do eqGuard .eql 67 (.tmp 91) (.tmp 92) (.agg #[.int .i64 n91_0, .int .i64 n91_1]) (.agg #[.int .i64 2, .int .i64 3]); binOp .eql 67 (.agg #[.int .i64 n91_0, .int .i64 n91_1]) (.agg #[.int .i64 2, .int .i64 3]) : Sem Value).run Tryz.prog w26 = .ok (.bool b93) w28 ∧
  (b93 = true →
  Calls Tryz.prog 44 #[.bool true, .bool false, .pointer (some ⟨k8, 0, none⟩)] w28 fun e_13 w29 => e_13 = .returned (.tuple #[]) ∧
  Calls Tryz.prog 44 #[.bool false, .bool true, .pointer (some ⟨k8, 0, none⟩)] w29 fun e_14 w30 => e_14 = .returned (.tuple #[]) ∧
  J [] w30) ∧
  (b93 = false →
  ∃ n95_0 : Int, ∃ n95_1 : Int, (w28.cell? ⟨k14, 0, none⟩ = some (.int .i64 n95_0) ∧ w28.cell? ⟨k14, 1, none⟩ = some (.int .i64 n95_1)) ∧
  ∃ b97 : Bool, ∃ w31, (do eqGuard .eql 67 (.tmp 95) (.tmp 96) (.agg #[.int .i64 n95_0, .int .i64 n95_1]) (.agg #[.int .i64 3, .int .i64 0]); binOp .eql 67 (.agg #[.int .i64 n95_0, .int .i64 n95_1]) (.agg #[.int .i64 3, .int .i64 0]) : Sem Value).run Tryz.prog w28 = .ok (.bool b97) w31 ∧
  (b97 = true →
  Calls Tryz.prog 44 #[.bool false, .bool true, .pointer (some ⟨k8, 0, none⟩)] w31 fun e_15 w32 => e_15 = .returned (.tuple #[]) ∧
  J [] w32) ∧
  (b97 = false →
  ∃ n99_0 : Int, ∃ n99_1 : Int, (w31.cell? ⟨k14, 0, none⟩ = some (.int .i64 n99_0) ∧ w31.cell? ⟨k14, 1, none⟩ = some (.int .i64 n99_1)) ∧
  ∃ b101 : Bool, ∃ w33, (do eqGuard .eql 67 (.tmp 99) (.tmp 100) (.agg #[.int .i64 n99_0, .int .i64 n99_1]) (.agg #[.int .i64 2, .int .i64 0]); binOp .eql 67 (.agg #[.int .i64 n99_0, .int .i64 n99_1]) (.agg #[.int .i64 2, .int .i64 0]) : Sem Value).run Tryz.prog w31 = .ok (.bool b101) w33 ∧
  (b101 = true →
  Calls Tryz.prog 44 #[.bool true, .bool false, .pointer (some ⟨k8, 0, none⟩)] w33 fun e_16 w34 => e_16 = .returned (.tuple #[]) ∧
  J [] w34) ∧
  (b101 = false →
  J [] w33)))))))))))
theorem refill_Fill_eq (p0 : Option Addr) (l0 c0 : Nat) (p1 : Option Addr) (l1 c1 : Nat) (w : World) (R : Value → World → Prop) : refill_Fill p0 l0 c0 p1 l1 c1 w R = fnP Tryz.prog Tryz.f24 (.s .o (.s .o (.s .o (.s .o (.s .o (.s (.s .o (.b (.l [(9, .one (.int .i64)), (35, .one (.int .i64))] .o))) (.s (.s .o (.b (.l [(49, .one (.int .i64))] .o))) (.s .o (.s (.s .o (.b (.l [(62, .one (.int .i64))] .o))) (.s .o (.j [] .o .o))))))))))) [.slice p0 l0 c0, .slice p1 l1 c1] w R := by kernel_rfl
theorem refill_Fill_calls {p0 : Option Addr} {l0 c0 : Nat} {p1 : Option Addr} {l1 c1 : Nat} {w : World} {R : Value → World → Prop} (h : refill_Fill p0 l0 c0 p1 l1 c1 w R) : Calls Tryz.prog 24 #[.slice p0 l0 c0, .slice p1 l1 c1] w fun e w1 => ∃ v, e = .returned v ∧ R v w1 := fnP_calls callable Tryz.func24 (refill_Fill_eq p0 l0 c0 p1 l1 c1 w R ▸ h)

/-- revetment/syndrome.Sum -/
def syndrome_Sum (p0 : Option Addr) (l0 c0 : Nat) (w : World) (R : Value → World → Prop) : Prop :=
  ((decide ((l0 : Int) < 2)) = true →
  R (.tuple #[.string (ByteArray.mk #[]), .string (ByteArray.mk #[])]) w) ∧
  ((decide ((l0 : Int) < 2)) = false →
  ∃ D : World → Prop, D w.drew ∧
  ∃ (p13 : Option Addr) (l13 c13 : Nat), (∀ w, D w → (Instr.sliceAt 22 (.slice p0 l0 c0) none (some (.int .i64 (IntKind.i64.wrap ((l0 : Int) - 2)))) none).run Tryz.prog w = .ok (.slice p13 l13 c13) w) ∧
  ∃ (p18 : Option Addr) (l18 c18 : Nat), (∀ w, D w → (Instr.sliceAt 22 (.slice p0 l0 c0) (some (.int .i64 (IntKind.i64.wrap ((l0 : Int) - 2)))) none none).run Tryz.prog w = .ok (.slice p18 l18 c18) w) ∧
  ∃ D_1 : World → Prop, D_1 w.drew.drew ∧
  Calls Tryz.prog 21 #[.slice p13 l13 c13] w.drew.drew fun e w1 => ∃ s20 : ByteArray, e = .returned (.string s20) ∧
  D_1 w1 ∧
  ∃ a22 : Addr, p18 = some a22 ∧ (0 : Int) ≤ 0 ∧ 0 < (l18 : Int) ∧
  ∃ s23 : ByteArray, (∀ w, D_1 w → w.cell? a22 = some (.string s23)) ∧
  Alloc #[.string s20, .string s23] 9 w1 fun k24 w2 =>
  D_1 w2 ∧
  Calls Tryz.prog 36 #[.slice (some ⟨k24, 0, none⟩) 2 2] w2 fun e_1 w3 => ∃ s25 : ByteArray, e_1 = .returned (.string s25) ∧
  D_1 w3 ∧
  Calls Tryz.prog 22 #[.slice p13 l13 c13] w3 fun e_2 w4 => ∃ s27 : ByteArray, e_2 = .returned (.string s27) ∧
  D_1 w4 ∧
  ∃ a29 : Addr, p18 = some a29 ∧ (0 : Int) ≤ 1 ∧ 1 < (l18 : Int) ∧
  ∃ s30 : ByteArray, (∀ w, D_1 w → w.cell? (a29.add 1) = some (.string s30)) ∧
  Alloc #[.string s27, .string s30] 9 w4 fun k31 w5 =>
  D_1 w5 ∧
  Calls Tryz.prog 36 #[.slice (some ⟨k31, 0, none⟩) 2 2] w5 fun e_3 w6 => ∃ s32 : ByteArray, e_3 = .returned (.string s32) ∧
  D_1 w6 ∧
  R (.tuple #[.string s25, .string s32]) w6)
theorem syndrome_Sum_eq (p0 : Option Addr) (l0 c0 : Nat) (w : World) (R : Value → World → Prop) : syndrome_Sum p0 l0 c0 w R = fnP Tryz.prog Tryz.f25 .o [.slice p0 l0 c0] w R := by kernel_rfl
theorem syndrome_Sum_calls {p0 : Option Addr} {l0 c0 : Nat} {w : World} {R : Value → World → Prop} (h : syndrome_Sum p0 l0 c0 w R) : Calls Tryz.prog 25 #[.slice p0 l0 c0] w fun e w1 => ∃ v, e = .returned v ∧ R v w1 := fnP_calls callable Tryz.func25 (syndrome_Sum_eq p0 l0 c0 w R ▸ h)

/-- revetment/scrub.zero -/
def scrub_zero (s0 : ByteArray) (w : World) (R : Value → World → Prop) : Prop :=
  Calls Tryz.prog 48 #[.string s0, .string (ByteArray.mk #[0])] w fun e w1 => ∃ s4 : ByteArray, e = .returned (.string s4) ∧
  R (.bool (s4.toList == (ByteArray.mk #[]).toList)) w1
theorem scrub_zero_eq (s0 : ByteArray) (w : World) (R : Value → World → Prop) : scrub_zero s0 w R = fnP Tryz.prog Tryz.f26 .o [.string s0] w R := by kernel_rfl
theorem scrub_zero_calls {s0 : ByteArray} {w : World} {R : Value → World → Prop} (h : scrub_zero s0 w R) : Calls Tryz.prog 26 #[.string s0] w fun e w1 => ∃ v, e = .returned v ∧ R v w1 := fnP_calls callable Tryz.func26 (scrub_zero_eq s0 w R ▸ h)

/-- revetment/scrub.multiples -/
def scrub_multiples (s0 : ByteArray) (n1 : Int) (w : World) (R : Value → World → Prop) : Prop :=
  Alloc #[.string s0] 9 w fun k2 w1 =>
  Alloc #[.int .i64 n1] 3 w1 fun k3 w2 =>
  R (.func (.func 49) #[] #[.pointer (some ⟨k3, 0, none⟩), .pointer (some ⟨k2, 0, none⟩)]) w2
theorem scrub_multiples_eq (s0 : ByteArray) (n1 : Int) (w : World) (R : Value → World → Prop) : scrub_multiples s0 n1 w R = fnP Tryz.prog Tryz.f27 .o [.string s0, .int .i64 n1] w R := by kernel_rfl
theorem scrub_multiples_calls {s0 : ByteArray} {n1 : Int} {w : World} {R : Value → World → Prop} (h : scrub_multiples s0 n1 w R) : Calls Tryz.prog 27 #[.string s0, .int .i64 n1] w fun e w1 => ∃ v, e = .returned v ∧ R v w1 := fnP_calls callable Tryz.func27 (scrub_multiples_eq s0 n1 w R ▸ h)

/-- revetment/revetmentref05.Sum -/
def revetmentref05_Sum (p0 : Option Addr) (l0 c0 : Nat) (w : World) (R : Value → World → Prop) : Prop :=
  ((decide ((IntKind.i64.wrap ((l0 : Int) - 2)) < 0)) = true →
  R (.tuple #[.string (ByteArray.mk #[]), .string (ByteArray.mk #[])]) w) ∧
  ((decide ((IntKind.i64.wrap ((l0 : Int) - 2)) < 0)) = false →
  ∃ D : World → Prop, D w.drew ∧
  ∃ (p12 : Option Addr) (l12 c12 : Nat), (∀ w, D w → (Instr.sliceAt 22 (.slice p0 l0 c0) none (some (.int .i64 (IntKind.i64.wrap ((l0 : Int) - 2)))) none).run Tryz.prog w = .ok (.slice p12 l12 c12) w) ∧
  Calls Tryz.prog 51 #[.slice p12 l12 c12] w.drew fun e w1 => ∃ s13 : ByteArray, e = .returned (.string s13) ∧
  D w1 ∧
  ∃ a16 : Addr, p0 = some a16 ∧ (0 : Int) ≤ IntKind.i64.wrap ((l0 : Int) - 2) ∧ (IntKind.i64.wrap ((l0 : Int) - 2)) < (l0 : Int) ∧
  ∃ s17 : ByteArray, (∀ w, D w → w.cell? (Addr.add a16 ((IntKind.i64.wrap ((l0 : Int) - 2)).toNat * 1)) = some (.string s17)) ∧
  Calls Tryz.prog 50 #[.string s13, .string s17] w1 fun e_1 w2 => ∃ s18 : ByteArray, e_1 = .returned (.string s18) ∧
  D w2 ∧
  ∃ (p21 : Option Addr) (l21 c21 : Nat), (∀ w, D w → (Instr.sliceAt 22 (.slice p0 l0 c0) none (some (.int .i64 (IntKind.i64.wrap ((l0 : Int) - 2)))) none).run Tryz.prog w = .ok (.slice p21 l21 c21) w) ∧
  Calls Tryz.prog 52 #[.slice p21 l21 c21] w2 fun e_2 w3 => ∃ s22 : ByteArray, e_2 = .returned (.string s22) ∧
  D w3 ∧
  ∃ a26 : Addr, p0 = some a26 ∧ (0 : Int) ≤ IntKind.i64.wrap ((IntKind.i64.wrap ((l0 : Int) - 2)) + 1) ∧ (IntKind.i64.wrap ((IntKind.i64.wrap ((l0 : Int) - 2)) + 1)) < (l0 : Int) ∧
  ∃ s27 : ByteArray, (∀ w, D w → w.cell? (Addr.add a26 ((IntKind.i64.wrap ((IntKind.i64.wrap ((l0 : Int) - 2)) + 1)).toNat * 1)) = some (.string s27)) ∧
  Calls Tryz.prog 50 #[.string s22, .string s27] w3 fun e_3 w4 => ∃ s28 : ByteArray, e_3 = .returned (.string s28) ∧
  D w4 ∧
  R (.tuple #[.string s18, .string s28]) w4)
theorem revetmentref05_Sum_eq (p0 : Option Addr) (l0 c0 : Nat) (w : World) (R : Value → World → Prop) : revetmentref05_Sum p0 l0 c0 w R = fnP Tryz.prog Tryz.f28 .o [.slice p0 l0 c0] w R := by kernel_rfl
theorem revetmentref05_Sum_calls {p0 : Option Addr} {l0 c0 : Nat} {w : World} {R : Value → World → Prop} (h : revetmentref05_Sum p0 l0 c0 w R) : Calls Tryz.prog 28 #[.slice p0 l0 c0] w fun e w1 => ∃ v, e = .returned v ∧ R v w1 := fnP_calls callable Tryz.func28 (revetmentref05_Sum_eq p0 l0 c0 w R ▸ h)

/-- revetment/revetmentref05.Zero -/
def revetmentref05_Zero (s0 : ByteArray) (w : World) (R : Value → World → Prop) : Prop :=
  LoopP (fun I => I [.int .i64 0] w) fun K vs w1 => ∃ n3 : Int, vs = [.int .i64 n3] ∧
  ((decide (n3 < (s0.size : Int))) = true →
  ∃ n12 : Int, ∃ w2, (Instr.index 9 (.string s0) (.int .i64 n3)).run Tryz.prog w1 = .ok (.int .u8 n12) w2 ∧
  ((n12 != 0) = true →
  R (.bool false) w2) ∧
  ((n12 != 0) = false →
  K [.int .i64 (IntKind.i64.wrap (n3 + 1))] w2)) ∧
  ((decide (n3 < (s0.size : Int))) = false →
  R (.bool true) w1)
theorem revetmentref05_Zero_eq (s0 : ByteArray) (w : World) (R : Value → World → Prop) : revetmentref05_Zero s0 w R = fnP Tryz.prog Tryz.f29 (.s .o (.s (.s .o (.b (.l [(3, .one (.int .i64))] .o))) .o)) [.string s0] w R := by kernel_rfl
theorem revetmentref05_Zero_calls {s0 : ByteArray} {w : World} {R : Value → World → Prop} (h : revetmentref05_Zero s0 w R) : Calls Tryz.prog 29 #[.string s0] w fun e w1 => ∃ v, e = .returned v ∧ R v w1 := fnP_calls callable Tryz.func29 (revetmentref05_Zero_eq s0 w R ▸ h)

/-- revetment/revetmentref06.May -/
def revetmentref06_May (p0 : Option Addr) (l0 c0 : Nat) (p1 : Option Addr) (l1 c1 : Nat) (w : World) (R : Value → World → Prop) : Prop :=
  ((decide ((l0 : Int) < 4)) = true →
  R (.int .i64 1) w) ∧
  ((decide ((l0 : Int) < 4)) = false →
  ((decide ((l0 : Int) > 10)) = true →
  R (.int .i64 1) w) ∧
  ((decide ((l0 : Int) > 10)) = false →
  LoopP (fun I => I [.int .i64 0] w) fun K vs w1 => ∃ n5 : Int, vs = [.int .i64 n5] ∧
  ((decide (n5 < (l1 : Int))) = true →
  ∃ D : World → Prop, D w1.drew ∧
  ∃ a23 : Addr, p1 = some a23 ∧ (0 : Int) ≤ n5 ∧ n5 < (l1 : Int) ∧
  ∃ n24 : Int, (∀ w, D w → w.cell? (Addr.add a23 (n5.toNat * 1)) = some (.int .i64 n24)) ∧
  ((decide (n24 < 0)) = true →
  R (.int .i64 1) w1.drew) ∧
  ((decide (n24 < 0)) = false →
  ∃ a29 : Addr, p1 = some a29 ∧ (0 : Int) ≤ n5 ∧ n5 < (l1 : Int) ∧
  ∃ n30 : Int, (∀ w, D w → w.cell? (Addr.add a29 (n5.toNat * 1)) = some (.int .i64 n30)) ∧
  ((decide (n30 ≥ (l0 : Int))) = true →
  R (.int .i64 1) w1.drew) ∧
  ((decide (n30 ≥ (l0 : Int))) = false →
  ∃ (p38 : Option Addr) (l38 c38 : Nat), (∀ w, D w → (Instr.sliceAt 44 (.slice p1 l1 c1) none (some (.int .i64 n5)) none).run Tryz.prog w = .ok (.slice p38 l38 c38) w) ∧
  ∃ a41 : Addr, p1 = some a41 ∧ (0 : Int) ≤ n5 ∧ n5 < (l1 : Int) ∧
  ∃ n42 : Int, (∀ w, D w → w.cell? (Addr.add a41 (n5.toNat * 1)) = some (.int .i64 n42)) ∧
  Calls Tryz.prog 53 #[.slice p38 l38 c38, .int .i64 n42] w1.drew fun e w2 => ∃ b43 : Bool, e = .returned (.bool b43) ∧
  D w2 ∧
  (b43 = true →
  R (.int .i64 1) w2) ∧
  (b43 = false →
  K [.int .i64 (IntKind.i64.wrap (n5 + 1))] w2)))) ∧
  ((decide (n5 < (l1 : Int))) = false →
  Calls Tryz.prog 54 #[.slice p0 l0 c0, .slice p1 l1 c1] w1 fun e_1 w3 => ∃ n47 : Int, e_1 = .returned (.int .i64 n47) ∧
  Join (fun vs_1 w4 => vs_1 = [] ∧
  ((decide ((l1 : Int) > 2)) = true →
  R (.int .i64 60) w4) ∧
  ((decide ((l1 : Int) > 2)) = false →
  R (.int .i64 0) w4)) fun J =>
  ((decide ((l1 : Int) < (l0 : Int))) = true →
  ((decide (n47 < 0)) = true →
  R (.int .i64 1) w3) ∧
  ((decide (n47 < 0)) = false →
  ((decide (n47 > 4096)) = true →
  R (.int .i64 1) w3) ∧
  ((decide (n47 > 4096)) = false →
  J [] w3))) ∧
  ((decide ((l1 : Int) < (l0 : Int))) = false →
  J [] w3))))
theorem revetmentref06_May_eq (p0 : Option Addr) (l0 c0 : Nat) (p1 : Option Addr) (l1 c1 : Nat) (w : World) (R : Value → World → Prop) : revetmentref06_May p0 l0 c0 p1 l1 c1 w R = fnP Tryz.prog Tryz.f30 (.s .o (.s .o (.s (.s .o (.b (.l [(5, .one (.int .i64))] .o))) (.s .o (.j [] .o .o))))) [.slice p0 l0 c0, .slice p1 l1 c1] w R := by kernel_rfl
theorem revetmentref06_May_calls {p0 : Option Addr} {l0 c0 : Nat} {p1 : Option Addr} {l1 c1 : Nat} {w : World} {R : Value → World → Prop} (h : revetmentref06_May p0 l0 c0 p1 l1 c1 w R) : Calls Tryz.prog 30 #[.slice p0 l0 c0, .slice p1 l1 c1] w fun e w1 => ∃ v, e = .returned v ∧ R v w1 := fnP_calls callable Tryz.func30 (revetmentref06_May_eq p0 l0 c0 p1 l1 c1 w R ▸ h)

/-- revetment/revetmentref01.Times -/
def revetmentref01_Times (s0 : ByteArray) (n1 : Int) (w : World) (R : Value → World → Prop) : Prop :=
  Alloc #[] 5 w fun k7 w1 =>
  LoopP (fun I => I [.slice (some ⟨k7, 0, none⟩) 0 0, .int .i64 0] w1) fun K vs w2 => ∃ (p5 : Option Addr) (l5 c5 : Nat), ∃ n6 : Int, vs = [.slice p5 l5 c5, .int .i64 n6] ∧
  ((decide (n6 < (s0.size : Int))) = true →
  ∃ n17 : Int, ∃ w3, (Instr.index 9 (.string s0) (.int .i64 n6)).run Tryz.prog w2 = .ok (.int .u8 n17) w3 ∧
  Calls Tryz.prog 55 #[.int .u8 n17, .int .u8 n1] w3 fun e w4 => ∃ n19 : Int, e = .returned (.int .u8 n19) ∧
  Alloc #[.int .u8 n19] 5 w4 fun k20 w5 =>
  ∃ (p21 : Option Addr) (l21 c21 : Nat), ∃ w6, (builtin .append #[33, 33] 33 #[false, false] #[.slice p5 l5 c5, .slice (some ⟨k20, 0, none⟩) 1 1]).run Tryz.prog w5 = .ok (.value (.slice p21 l21 c21)) w6 ∧
  K [.slice p21 l21 c21, .int .i64 (IntKind.i64.wrap (n6 + 1))] w6) ∧
  ((decide (n6 < (s0.size : Int))) = false →
  ∃ s23 : ByteArray, ∃ w7, (convert 33 9 (.slice p5 l5 c5)).run Tryz.prog w2 = .ok (.string s23) w7 ∧
  R (.string s23) w7)
theorem revetmentref01_Times_eq (s0 : ByteArray) (n1 : Int) (w : World) (R : Value → World → Prop) : revetmentref01_Times s0 n1 w R = fnP Tryz.prog Tryz.f31 (.s .o (.s .o (.s (.s .o (.b (.l [(5, .one .slice), (6, .one (.int .i64))] .o))) .o))) [.string s0, .int .u8 n1] w R := by kernel_rfl
theorem revetmentref01_Times_calls {s0 : ByteArray} {n1 : Int} {w : World} {R : Value → World → Prop} (h : revetmentref01_Times s0 n1 w R) : Calls Tryz.prog 31 #[.string s0, .int .u8 n1] w fun e w1 => ∃ v, e = .returned v ∧ R v w1 := fnP_calls callable Tryz.func31 (revetmentref01_Times_eq s0 n1 w R ▸ h)

/-- revetment/revetmentref01.Exp -/
def revetmentref01_Exp (n0 : Int) (w : World) (R : Value → World → Prop) : Prop :=
  Calls Tryz.prog 56 #[.int .u8 2, .int .i64 n0] w fun e w1 => ∃ n4 : Int, e = .returned (.int .u8 n4) ∧
  R (.int .u8 n4) w1
theorem revetmentref01_Exp_eq (n0 : Int) (w : World) (R : Value → World → Prop) : revetmentref01_Exp n0 w R = fnP Tryz.prog Tryz.f32 .o [.int .i64 n0] w R := by kernel_rfl
theorem revetmentref01_Exp_calls {n0 : Int} {w : World} {R : Value → World → Prop} (h : revetmentref01_Exp n0 w R) : Calls Tryz.prog 32 #[.int .i64 n0] w fun e w1 => ∃ v, e = .returned v ∧ R v w1 := fnP_calls callable Tryz.func32 (revetmentref01_Exp_eq n0 w R ▸ h)

/-- revetment/revetmentref06.Fill -/
def revetmentref06_Fill (p0 : Option Addr) (l0 c0 : Nat) (p1 : Option Addr) (l1 c1 : Nat) (w : World) (R : Value → World → Prop) : Prop :=
  Calls Tryz.prog 30 #[.slice p0 l0 c0, .slice p1 l1 c1] w fun e w1 => ∃ n16 : Int, e = .returned (.int .i64 n16) ∧
  ((n16 != 0) = true →
  R (.tuple #[.slice none 0 0, .int .i64 n16]) w1) ∧
  ((n16 != 0) = false →
  Alloc #[] 33 w1 fun k20 w2 =>
  LoopP (fun I => I [.slice (some ⟨k20, 0, none⟩) 0 0, .int .i64 0] w2) fun K vs w3 => ∃ (p7 : Option Addr) (l7 c7 : Nat), ∃ n8 : Int, vs = [.slice p7 l7 c7, .int .i64 n8] ∧
  ((decide (n8 < (l0 : Int))) = true →
  Alloc #[] 5 w3 fun k28 w4 =>
  Alloc #[.slice (some ⟨k28, 0, none⟩) 0 0] 33 w4 fun k29 w5 =>
  ∃ (p30 : Option Addr) (l30 c30 : Nat), ∃ w6, (builtin .append #[77, 77] 77 #[false, false] #[.slice p7 l7 c7, .slice (some ⟨k29, 0, none⟩) 1 1]).run Tryz.prog w5 = .ok (.value (.slice p30 l30 c30)) w6 ∧
  K [.slice p30 l30 c30, .int .i64 (IntKind.i64.wrap (n8 + 1))] w6) ∧
  ((decide (n8 < (l0 : Int))) = false →
  LoopP (fun I_1 => I_1 [.int .i64 0] w3) fun K_1 vs_1 w7 => ∃ n9 : Int, vs_1 = [.int .i64 n9] ∧
  Calls Tryz.prog 54 #[.slice p0 l0 c0, .slice p1 l1 c1] w7 fun e_1 w8 => ∃ n34 : Int, e_1 = .returned (.int .i64 n34) ∧
  ((decide (n9 < n34)) = true →
  Calls Tryz.prog 58 #[.slice p0 l0 c0, .slice p1 l1 c1, .int .i64 n9] w8 fun e_2 w9 => ∃ (p41 : Option Addr) (l41 c41 : Nat), e_2 = .returned (.slice p41 l41 c41) ∧
  Calls Tryz.prog 57 #[.slice p41 l41 c41, .slice p1 l1 c1] w9 fun e_3 w10 => ∃ (p43 : Option Addr) (l43 c43 : Nat), e_3 = .returned (.slice p43 l43 c43) ∧
  LoopP (fun I_2 => I_2 [.int .i64 0] w10) fun K_2 vs_2 w11 => ∃ n11 : Int, vs_2 = [.int .i64 n11] ∧
  ((decide (n11 < (l0 : Int))) = true →
  ∃ D : World → Prop, D w11.drew ∧
  ∃ a54 : Addr, p7 = some a54 ∧ (0 : Int) ≤ n11 ∧ n11 < (l7 : Int) ∧
  ∃ (p55 : Option Addr) (l55 c55 : Nat), (∀ w, D w → w.cell? (Addr.add a54 (n11.toNat * 1)) = some (.slice p55 l55 c55)) ∧
  ∃ a58 : Addr, p43 = some a58 ∧ (0 : Int) ≤ n11 ∧ n11 < (l43 : Int) ∧
  ∃ n59 : Int, (∀ w, D w → w.cell? (Addr.add a58 (n11.toNat * 1)) = some (.int .u8 n59)) ∧
  Alloc #[.int .u8 n59] 5 w11.drew fun k60 w12 =>
  D w12 ∧
  ∃ (p61 : Option Addr) (l61 c61 : Nat), ∃ w13, (builtin .append #[33, 33] 33 #[false, false] #[.slice p55 l55 c55, .slice (some ⟨k60, 0, none⟩) 1 1]).run Tryz.prog w12 = .ok (.value (.slice p61 l61 c61)) w13 ∧
  D w13 ∧
  ∃ a62 : Addr, p7 = some a62 ∧ (0 : Int) ≤ n11 ∧ n11 < (l7 : Int) ∧
  St (Addr.add a62 (n11.toNat * 1)) (.slice p61 l61 c61) w13 fun w14 =>
  K_2 [.int .i64 (IntKind.i64.wrap (n11 + 1))] w14) ∧
  ((decide (n11 < (l0 : Int))) = false →
  K_1 [.int .i64 (IntKind.i64.wrap (n9 + 1))] w11)) ∧
  ((decide (n9 < n34)) = false →
  Alloc #[] 9 w8 fun k63 w15 =>
  LoopP (fun I_3 => I_3 [.slice (some ⟨k63, 0, none⟩) 0 0, .int .i64 0] w15) fun K_3 vs_3 w16 => ∃ (p12 : Option Addr) (l12 c12 : Nat), ∃ n13 : Int, vs_3 = [.slice p12 l12 c12, .int .i64 n13] ∧
  ((decide (n13 < (l7 : Int))) = true →
  ∃ a73 : Addr, p7 = some a73 ∧ (0 : Int) ≤ n13 ∧ n13 < (l7 : Int) ∧
  ∃ (p74 : Option Addr) (l74 c74 : Nat), w16.cell? (Addr.add a73 (n13.toNat * 1)) = some (.slice p74 l74 c74) ∧
  ∃ s75 : ByteArray, ∃ w17, (convert 33 9 (.slice p74 l74 c74)).run Tryz.prog w16 = .ok (.string s75) w17 ∧
  Alloc #[.string s75] 9 w17 fun k76 w18 =>
  ∃ (p77 : Option Addr) (l77 c77 : Nat), ∃ w19, (builtin .append #[22, 22] 22 #[false, false] #[.slice p12 l12 c12, .slice (some ⟨k76, 0, none⟩) 1 1]).run Tryz.prog w18 = .ok (.value (.slice p77 l77 c77)) w19 ∧
  K_3 [.slice p77 l77 c77, .int .i64 (IntKind.i64.wrap (n13 + 1))] w19) ∧
  ((decide (n13 < (l7 : Int))) = false →
  R (.tuple #[.slice p12 l12 c12, .int .i64 0]) w16))))
theorem revetmentref06_Fill_eq (p0 : Option Addr) (l0 c0 : Nat) (p1 : Option Addr) (l1 c1 : Nat) (w : World) (R : Value → World → Prop) : revetmentref06_Fill p0 l0 c0 p1 l1 c1 w R = fnP Tryz.prog Tryz.f33 (.s .o (.s .o (.s .o (.s .o (.s (.s .o (.b (.l [(7, .one .slice), (8, .one (.int .i64))] .o))) (.s (.s .o (.b (.l [(9, .one (.int .i64))] (.s .o (.s (.b (.s .o (.s .o (.b (.l [(11, .one (.int .i64))] .o))))) .o))))) (.s .o (.s (.s .o (.b (.l [(12, .one .slice), (13, .one (.int .i64))] .o))) .o)))))))) [.slice p0 l0 c0, .slice p1 l1 c1] w R := by kernel_rfl
theorem revetmentref06_Fill_calls {p0 : Option Addr} {l0 c0 : Nat} {p1 : Option Addr} {l1 c1 : Nat} {w : World} {R : Value → World → Prop} (h : revetmentref06_Fill p0 l0 c0 p1 l1 c1 w R) : Calls Tryz.prog 33 #[.slice p0 l0 c0, .slice p1 l1 c1] w fun e w1 => ∃ v, e = .returned v ∧ R v w1 := fnP_calls callable Tryz.func33 (revetmentref06_Fill_eq p0 l0 c0 p1 l1 c1 w R ▸ h)

/-- revetment/scrub.Parity$1 -/
def scrub_Parity_1 (k0 : Addr) (w : World) (R : Value → World → Prop) : Prop :=
  ∃ (p2 : Option Addr) (l2 c2 : Nat), w.cell? k0 = some (.slice p2 l2 c2) ∧
  ∃ (p3 : Option Addr) (l3 c3 : Nat), w.cell? k0 = some (.slice p3 l3 c3) ∧
  ∃ (p6 : Option Addr) (l6 c6 : Nat), ∃ w1, (Instr.sliceAt 22 (.slice p2 l2 c2) none (some (.int .i64 (IntKind.i64.wrap ((l3 : Int) - 2)))) none).run Tryz.prog w = .ok (.slice p6 l6 c6) w1 ∧
  R (.slice p6 l6 c6) w1
theorem scrub_Parity_1_eq (k0 : Addr) (w : World) (R : Value → World → Prop) : scrub_Parity_1 k0 w R = fnP Tryz.prog Tryz.f34 .o [.pointer (some k0)] w R := by kernel_rfl
theorem scrub_Parity_1_calls {k0 : Addr} {w : World} {R : Value → World → Prop} (h : scrub_Parity_1 k0 w R) : Calls Tryz.prog 34 #[.pointer (some k0)] w fun e w1 => ∃ v, e = .returned v ∧ R v w1 := fnP_calls callable Tryz.func34 (scrub_Parity_1_eq k0 w R ▸ h)

/-- revetment/revetmentref06.Make -/
def revetmentref06_Make (p0 : Option Addr) (l0 c0 : Nat) (w : World) (R : Value → World → Prop) : Prop :=
  Alloc #[] 9 w fun k6 w1 =>
  ∃ (p9 : Option Addr) (l9 c9 : Nat), ∃ w2, (builtin .append #[22, 22] 22 #[false, false] #[.slice (some ⟨k6, 0, none⟩) 0 0, .slice p0 l0 c0]).run Tryz.prog w1 = .ok (.value (.slice p9 l9 c9)) w2 ∧
  Calls Tryz.prog 51 #[.slice p0 l0 c0] w2 fun e w3 => ∃ s12 : ByteArray, e = .returned (.string s12) ∧
  Calls Tryz.prog 52 #[.slice p0 l0 c0] w3 fun e_1 w4 => ∃ s14 : ByteArray, e_1 = .returned (.string s14) ∧
  Alloc #[.string s12, .string s14] 9 w4 fun k15 w5 =>
  ∃ (p16 : Option Addr) (l16 c16 : Nat), ∃ w6, (builtin .append #[22, 22] 22 #[false, false] #[.slice p9 l9 c9, .slice (some ⟨k15, 0, none⟩) 2 2]).run Tryz.prog w5 = .ok (.value (.slice p16 l16 c16)) w6 ∧
  Calls Tryz.prog 30 #[.slice p16 l16 c16, .slice none 0 0] w6 fun e_2 w7 => ∃ n18 : Int, e_2 = .returned (.int .i64 n18) ∧
  ((n18 != 0) = true →
  R (.tuple #[.slice none 0 0, .int .i64 n18]) w7) ∧
  ((n18 != 0) = false →
  R (.tuple #[.slice p16 l16 c16, .int .i64 0]) w7)
theorem revetmentref06_Make_eq (p0 : Option Addr) (l0 c0 : Nat) (w : World) (R : Value → World → Prop) : revetmentref06_Make p0 l0 c0 w R = fnP Tryz.prog Tryz.f35 .o [.slice p0 l0 c0] w R := by kernel_rfl
theorem revetmentref06_Make_calls {p0 : Option Addr} {l0 c0 : Nat} {w : World} {R : Value → World → Prop} (h : revetmentref06_Make p0 l0 c0 w R) : Calls Tryz.prog 35 #[.slice p0 l0 c0] w fun e w1 => ∃ v, e = .returned v ∧ R v w1 := fnP_calls callable Tryz.func35 (revetmentref06_Make_eq p0 l0 c0 w R ▸ h)

/-- revetment/syndrome.added -/
def syndrome_added (p0 : Option Addr) (l0 c0 : Nat) (w : World) (R : Value → World → Prop) : Prop :=
  LoopP (fun I => I [.string (ByteArray.mk #[]), .int .i64 0] w) fun K vs w1 => ∃ s3 : ByteArray, ∃ n8 : Int, vs = [.string s3, .int .i64 n8] ∧
  ((decide (n8 < (l0 : Int))) = true →
  ∃ a10 : Addr, p0 = some a10 ∧ (0 : Int) ≤ n8 ∧ n8 < (l0 : Int) ∧
  ∃ s11 : ByteArray, w1.cell? (Addr.add a10 (n8.toNat * 1)) = some (.string s11) ∧
  Calls Tryz.prog 59 #[.string s3, .string s11] w1 fun e w2 => ∃ s14 : ByteArray, e = .returned (.string s14) ∧
  K [.string s14, .int .i64 (IntKind.i64.wrap (n8 + 1))] w2) ∧
  ((decide (n8 < (l0 : Int))) = false →
  R (.string s3) w1)
theorem syndrome_added_eq (p0 : Option Addr) (l0 c0 : Nat) (w : World) (R : Value → World → Prop) : syndrome_added p0 l0 c0 w R = fnP Tryz.prog Tryz.f36 (.s .o (.s .o (.s (.s .o (.b (.l [(3, .one .str), (8, .one (.int .i64))] .o))) .o))) [.slice p0 l0 c0] w R := by kernel_rfl
theorem syndrome_added_calls {p0 : Option Addr} {l0 c0 : Nat} {w : World} {R : Value → World → Prop} (h : syndrome_added p0 l0 c0 w R) : Calls Tryz.prog 36 #[.slice p0 l0 c0] w fun e w1 => ∃ v, e = .returned v ∧ R v w1 := fnP_calls callable Tryz.func36 (syndrome_added_eq p0 l0 c0 w R ▸ h)

/-- revetment/syndrome.powers -/
def syndrome_powers (w : World) (R : Value → World → Prop) : Prop :=
  R (.func (.func 60) #[] #[]) w
theorem syndrome_powers_eq (w : World) (R : Value → World → Prop) : syndrome_powers w R = fnP Tryz.prog Tryz.f37 .o [] w R := by kernel_rfl
theorem syndrome_powers_calls {w : World} {R : Value → World → Prop} (h : syndrome_powers w R) : Calls Tryz.prog 37 #[] w fun e w1 => ∃ v, e = .returned v ∧ R v w1 := fnP_calls callable Tryz.func37 (syndrome_powers_eq w R ▸ h)

/-- revetment/gf.Times -/
def gf_Times (s0 : ByteArray) (n1 : Int) (w : World) (R : Value → World → Prop) : Prop :=
  Calls Tryz.prog 62 #[] w fun e w1 => ∃ p8 : Option Addr, e = .returned (.pointer p8) ∧
  ∃ (p12 : Option Addr) (l12 c12 : Nat), ∃ w2, (Instr.makeSlice 33 (.int .i64 (s0.size : Int)) (.int .i64 (s0.size : Int))).run Tryz.prog w1 = .ok (.slice p12 l12 c12) w2 ∧
  LoopP (fun I => I [.int .i64 0] w2) fun K vs w3 => ∃ n15 : Int, vs = [.int .i64 n15] ∧
  ((decide (n15 < (l12 : Int))) = true →
  ∃ n23 : Int, ∃ w4, (Instr.index 9 (.string s0) (.int .i64 n15)).run Tryz.prog w3 = .ok (.int .u8 n23) w4 ∧
  Calls Tryz.prog 63 #[.pointer p8, .int .u8 n23, .int .u8 n1] w4 fun e_1 w5 => ∃ n25 : Int, e_1 = .returned (.int .u8 n25) ∧
  ∃ a26 : Addr, p12 = some a26 ∧ (0 : Int) ≤ n15 ∧ n15 < (l12 : Int) ∧
  St (Addr.add a26 (n15.toNat * 1)) (.int .u8 n25) w5 fun w6 =>
  K [.int .i64 (IntKind.i64.wrap (n15 + 1))] w6) ∧
  ((decide (n15 < (l12 : Int))) = false →
  ∃ s29 : ByteArray, ∃ w7, (convert 33 9 (.slice p12 l12 c12)).run Tryz.prog w3 = .ok (.string s29) w7 ∧
  R (.string s29) w7)
theorem gf_Times_eq (s0 : ByteArray) (n1 : Int) (w : World) (R : Value → World → Prop) : gf_Times s0 n1 w R = fnP Tryz.prog Tryz.f38 (.s .o (.s .o (.s .o (.s (.s .o (.b (.l [(15, .one (.int .i64))] .o))) .o)))) [.string s0, .int .u8 n1] w R := by kernel_rfl
theorem gf_Times_calls {s0 : ByteArray} {n1 : Int} {w : World} {R : Value → World → Prop} (h : gf_Times s0 n1 w R) : Calls Tryz.prog 38 #[.string s0, .int .u8 n1] w fun e w1 => ∃ v, e = .returned v ∧ R v w1 := fnP_calls callable Tryz.func38 (gf_Times_eq s0 n1 w R ▸ h)

/-- (revetment/refill.row).kind -/
def refill_row_kind (p0_0 : Option Addr) (l0_0 c0_0 : Nat) (n0_1 : Int) (n1 : Int) (w : World) (R : Value → World → Prop) : Prop :=
  Alloc #[.slice p0_0 l0_0 c0_0, .int .i64 n0_1] 64 w fun k2 w1 =>
  ∃ n8 : Int, w1.cell? ⟨k2, 1, none⟩ = some (.int .i64 n8) ∧
  ((decide (n1 < n8)) = true →
  R (.int .i64 1) w1) ∧
  ((decide (n1 < n8)) = false →
  ∃ n13 : Int, w1.cell? ⟨k2, 1, none⟩ = some (.int .i64 n13) ∧
  ((n1 == n13) = true →
  R (.int .i64 2) w1) ∧
  ((n1 == n13) = false →
  R (.int .i64 3) w1))
theorem refill_row_kind_eq (p0_0 : Option Addr) (l0_0 c0_0 : Nat) (n0_1 : Int) (n1 : Int) (w : World) (R : Value → World → Prop) : refill_row_kind p0_0 l0_0 c0_0 n0_1 n1 w R = fnP Tryz.prog Tryz.f43 .o [.agg #[.slice p0_0 l0_0 c0_0, .int .i64 n0_1], .int .i64 n1] w R := by kernel_rfl
theorem refill_row_kind_calls {p0_0 : Option Addr} {l0_0 c0_0 : Nat} {n0_1 : Int} {n1 : Int} {w : World} {R : Value → World → Prop} (h : refill_row_kind p0_0 l0_0 c0_0 n0_1 n1 w R) : Calls Tryz.prog 43 #[.agg #[.slice p0_0 l0_0 c0_0, .int .i64 n0_1], .int .i64 n1] w fun e w1 => ∃ v, e = .returned v ∧ R v w1 := fnP_calls callable Tryz.func43 (refill_row_kind_eq p0_0 l0_0 c0_0 n0_1 n1 w R ▸ h)

/-- revetment/refill.Fill$1 -/
def refill_Fill_1 (b0 : Bool) (b1 : Bool) (k2 : Addr) (w : World) (R : Value → World → Prop) : Prop :=
  Join (fun vs w1 => vs = [] ∧
  (b1 = true →
  ∃ D : World → Prop, D w1.drew ∧
  ∃ (p19 : Option Addr) (l19 c19 : Nat), (∀ w, D w → w.cell? k2 = some (.slice p19 l19 c19)) ∧
  ∃ n21 : Int, (∀ w, D w → w.cell? (k2.add 1) = some (.int .i64 n21)) ∧
  ∃ (p24 : Option Addr) (l24 c24 : Nat), (∀ w, D w → w.cell? k2 = some (.slice p24 l24 c24)) ∧
  ∃ n26 : Int, (∀ w, D w → w.cell? (k2.add 1) = some (.int .i64 n26)) ∧
  ∃ (p27 : Option Addr) (l27 c27 : Nat), (∀ w, D w → (Instr.sliceAt 22 (.slice p24 l24 c24) none (some (.int .i64 n26)) none).run Tryz.prog w = .ok (.slice p27 l27 c27) w) ∧
  Calls Tryz.prog 22 #[.slice p27 l27 c27] w1.drew fun e w2 => ∃ s28 : ByteArray, e = .returned (.string s28) ∧
  D w2 ∧
  ∃ a29 : Addr, p19 = some a29 ∧ (0 : Int) ≤ IntKind.i64.wrap (n21 + 1) ∧ (IntKind.i64.wrap (n21 + 1)) < (l19 : Int) ∧
  St (Addr.add a29 ((IntKind.i64.wrap (n21 + 1)).toNat * 1)) (.string s28) w2 fun w3 =>
  R (.tuple #[]) w3) ∧
  (b1 = false →
  R (.tuple #[]) w1)) fun J =>
  (b0 = true →
  ∃ D_1 : World → Prop, D_1 w.drew ∧
  ∃ (p7 : Option Addr) (l7 c7 : Nat), (∀ w, D_1 w → w.cell? k2 = some (.slice p7 l7 c7)) ∧
  ∃ n9 : Int, (∀ w, D_1 w → w.cell? (k2.add 1) = some (.int .i64 n9)) ∧
  ∃ (p11 : Option Addr) (l11 c11 : Nat), (∀ w, D_1 w → w.cell? k2 = some (.slice p11 l11 c11)) ∧
  ∃ n13 : Int, (∀ w, D_1 w → w.cell? (k2.add 1) = some (.int .i64 n13)) ∧
  ∃ (p14 : Option Addr) (l14 c14 : Nat), (∀ w, D_1 w → (Instr.sliceAt 22 (.slice p11 l11 c11) none (some (.int .i64 n13)) none).run Tryz.prog w = .ok (.slice p14 l14 c14) w) ∧
  Calls Tryz.prog 21 #[.slice p14 l14 c14] w.drew fun e_1 w4 => ∃ s15 : ByteArray, e_1 = .returned (.string s15) ∧
  D_1 w4 ∧
  ∃ a16 : Addr, p7 = some a16 ∧ (0 : Int) ≤ n9 ∧ n9 < (l7 : Int) ∧
  St (Addr.add a16 (n9.toNat * 1)) (.string s15) w4 fun w5 =>
  J [] w5) ∧
  (b0 = false →
  J [] w)
theorem refill_Fill_1_eq (b0 : Bool) (b1 : Bool) (k2 : Addr) (w : World) (R : Value → World → Prop) : refill_Fill_1 b0 b1 k2 w R = fnP Tryz.prog Tryz.f44 (.j [] .o .o) [.bool b0, .bool b1, .pointer (some k2)] w R := by kernel_rfl
theorem refill_Fill_1_calls {b0 : Bool} {b1 : Bool} {k2 : Addr} {w : World} {R : Value → World → Prop} (h : refill_Fill_1 b0 b1 k2 w R) : Calls Tryz.prog 44 #[.bool b0, .bool b1, .pointer (some k2)] w fun e w1 => ∃ v, e = .returned v ∧ R v w1 := fnP_calls callable Tryz.func44 (refill_Fill_1_eq b0 b1 k2 w R ▸ h)

/-- (revetment/refill.row).both -/
def refill_row_both (p0_0 : Option Addr) (l0_0 c0_0 : Nat) (n0_1 : Int) (n1 : Int) (n2 : Int) (w : World) (R : Value → World → Prop) : Prop :=
  Alloc #[.slice p0_0 l0_0 c0_0, .int .i64 n0_1] 64 w fun k3 w1 =>
  ∃ (p12 : Option Addr) (l12 c12 : Nat), w1.cell? ⟨k3, 0, none⟩ = some (.slice p12 l12 c12) ∧
  Calls Tryz.prog 25 #[.slice p12 l12 c12] w1 fun e w2 => ∃ s13_0 : ByteArray, ∃ s13_1 : ByteArray, e = .returned (.tuple #[.string s13_0, .string s13_1]) ∧
  Calls Tryz.prog 75 #[.int .i64 n1] w2 fun e_1 w3 => ∃ n18 : Int, e_1 = .returned (.int .u8 n18) ∧
  Calls Tryz.prog 75 #[.int .i64 n2] w3 fun e_2 w4 => ∃ n20 : Int, e_2 = .returned (.int .u8 n20) ∧
  Calls Tryz.prog 74 #[.int .u8 (bits2 .xor .u8 n18 n20)] w4 fun e_3 w5 => ∃ n22_0 : Int, ∃ b22_1 : Bool, e_3 = .returned (.tuple #[.int .u8 n22_0, .bool b22_1]) ∧
  ∃ D : World → Prop, D w5.drew ∧
  ∃ (p26 : Option Addr) (l26 c26 : Nat), (∀ w, D w → w.cell? ⟨k3, 0, none⟩ = some (.slice p26 l26 c26)) ∧
  Calls Tryz.prog 75 #[.int .i64 n1] w5.drew fun e_4 w6 => ∃ n31 : Int, e_4 = .returned (.int .u8 n31) ∧
  D w6 ∧
  Calls Tryz.prog 38 #[.string s13_0, .int .u8 n31] w6 fun e_5 w7 => ∃ s32 : ByteArray, e_5 = .returned (.string s32) ∧
  D w7 ∧
  Calls Tryz.prog 59 #[.string s13_1, .string s32] w7 fun e_6 w8 => ∃ s33 : ByteArray, e_6 = .returned (.string s33) ∧
  D w8 ∧
  Calls Tryz.prog 38 #[.string s33, .int .u8 n22_0] w8 fun e_7 w9 => ∃ s35 : ByteArray, e_7 = .returned (.string s35) ∧
  D w9 ∧
  ∃ a36 : Addr, p26 = some a36 ∧ (0 : Int) ≤ n2 ∧ n2 < (l26 : Int) ∧
  St (Addr.add a36 (n2.toNat * 1)) (.string s35) w9 fun w10 =>
  ∃ D_1 : World → Prop, D_1 w10.drew ∧
  ∃ (p38 : Option Addr) (l38 c38 : Nat), (∀ w, D_1 w → w.cell? ⟨k3, 0, none⟩ = some (.slice p38 l38 c38)) ∧
  ∃ (p42 : Option Addr) (l42 c42 : Nat), (∀ w, D_1 w → w.cell? ⟨k3, 0, none⟩ = some (.slice p42 l42 c42)) ∧
  ∃ a44 : Addr, p42 = some a44 ∧ (0 : Int) ≤ n2 ∧ n2 < (l42 : Int) ∧
  ∃ s45 : ByteArray, (∀ w, D_1 w → w.cell? (Addr.add a44 (n2.toNat * 1)) = some (.string s45)) ∧
  Calls Tryz.prog 59 #[.string s13_0, .string s45] w10.drew fun e_8 w11 => ∃ s46 : ByteArray, e_8 = .returned (.string s46) ∧
  D_1 w11 ∧
  ∃ a47 : Addr, p38 = some a47 ∧ (0 : Int) ≤ n1 ∧ n1 < (l38 : Int) ∧
  St (Addr.add a47 (n1.toNat * 1)) (.string s46) w11 fun w12 =>
  R (.tuple #[]) w12
theorem refill_row_both_eq (p0_0 : Option Addr) (l0_0 c0_0 : Nat) (n0_1 : Int) (n1 : Int) (n2 : Int) (w : World) (R : Value → World → Prop) : refill_row_both p0_0 l0_0 c0_0 n0_1 n1 n2 w R = fnP Tryz.prog Tryz.f45 .o [.agg #[.slice p0_0 l0_0 c0_0, .int .i64 n0_1], .int .i64 n1, .int .i64 n2] w R := by kernel_rfl
theorem refill_row_both_calls {p0_0 : Option Addr} {l0_0 c0_0 : Nat} {n0_1 : Int} {n1 : Int} {n2 : Int} {w : World} {R : Value → World → Prop} (h : refill_row_both p0_0 l0_0 c0_0 n0_1 n1 n2 w R) : Calls Tryz.prog 45 #[.agg #[.slice p0_0 l0_0 c0_0, .int .i64 n0_1], .int .i64 n1, .int .i64 n2] w fun e w1 => ∃ v, e = .returned v ∧ R v w1 := fnP_calls callable Tryz.func45 (refill_row_both_eq p0_0 l0_0 c0_0 n0_1 n1 n2 w R ▸ h)

/-- (revetment/refill.row).byQ -/
def refill_row_byQ (p0_0 : Option Addr) (l0_0 c0_0 : Nat) (n0_1 : Int) (n1 : Int) (w : World) (R : Value → World → Prop) : Prop :=
  Alloc #[.slice p0_0 l0_0 c0_0, .int .i64 n0_1] 64 w fun k2 w1 =>
  ∃ (p8 : Option Addr) (l8 c8 : Nat), w1.cell? ⟨k2, 0, none⟩ = some (.slice p8 l8 c8) ∧
  Calls Tryz.prog 25 #[.slice p8 l8 c8] w1 fun e w2 => ∃ s9_0 : ByteArray, ∃ s9_1 : ByteArray, e = .returned (.tuple #[.string s9_0, .string s9_1]) ∧
  ∃ D : World → Prop, D w2.drew ∧
  ∃ (p13 : Option Addr) (l13 c13 : Nat), (∀ w, D w → w.cell? ⟨k2, 0, none⟩ = some (.slice p13 l13 c13)) ∧
  ∃ (p16 : Option Addr) (l16 c16 : Nat), (∀ w, D w → w.cell? ⟨k2, 0, none⟩ = some (.slice p16 l16 c16)) ∧
  ∃ a18 : Addr, p16 = some a18 ∧ (0 : Int) ≤ n1 ∧ n1 < (l16 : Int) ∧
  ∃ s19 : ByteArray, (∀ w, D w → w.cell? (Addr.add a18 (n1.toNat * 1)) = some (.string s19)) ∧
  Calls Tryz.prog 75 #[.int .i64 (IntKind.i64.wrap (0 - n1))] w2.drew fun e_1 w3 => ∃ n23 : Int, e_1 = .returned (.int .u8 n23) ∧
  D w3 ∧
  Calls Tryz.prog 38 #[.string s9_1, .int .u8 n23] w3 fun e_2 w4 => ∃ s24 : ByteArray, e_2 = .returned (.string s24) ∧
  D w4 ∧
  Calls Tryz.prog 59 #[.string s19, .string s24] w4 fun e_3 w5 => ∃ s25 : ByteArray, e_3 = .returned (.string s25) ∧
  D w5 ∧
  ∃ a26 : Addr, p13 = some a26 ∧ (0 : Int) ≤ n1 ∧ n1 < (l13 : Int) ∧
  St (Addr.add a26 (n1.toNat * 1)) (.string s25) w5 fun w6 =>
  R (.tuple #[]) w6
theorem refill_row_byQ_eq (p0_0 : Option Addr) (l0_0 c0_0 : Nat) (n0_1 : Int) (n1 : Int) (w : World) (R : Value → World → Prop) : refill_row_byQ p0_0 l0_0 c0_0 n0_1 n1 w R = fnP Tryz.prog Tryz.f46 .o [.agg #[.slice p0_0 l0_0 c0_0, .int .i64 n0_1], .int .i64 n1] w R := by kernel_rfl
theorem refill_row_byQ_calls {p0_0 : Option Addr} {l0_0 c0_0 : Nat} {n0_1 : Int} {n1 : Int} {w : World} {R : Value → World → Prop} (h : refill_row_byQ p0_0 l0_0 c0_0 n0_1 n1 w R) : Calls Tryz.prog 46 #[.agg #[.slice p0_0 l0_0 c0_0, .int .i64 n0_1], .int .i64 n1] w fun e w1 => ∃ v, e = .returned v ∧ R v w1 := fnP_calls callable Tryz.func46 (refill_row_byQ_eq p0_0 l0_0 c0_0 n0_1 n1 w R ▸ h)

/-- (revetment/refill.row).byP -/
def refill_row_byP (p0_0 : Option Addr) (l0_0 c0_0 : Nat) (n0_1 : Int) (n1 : Int) (w : World) (R : Value → World → Prop) : Prop :=
  Alloc #[.slice p0_0 l0_0 c0_0, .int .i64 n0_1] 64 w fun k2 w1 =>
  ∃ (p8 : Option Addr) (l8 c8 : Nat), w1.cell? ⟨k2, 0, none⟩ = some (.slice p8 l8 c8) ∧
  Calls Tryz.prog 25 #[.slice p8 l8 c8] w1 fun e w2 => ∃ s9_0 : ByteArray, ∃ s9_1 : ByteArray, e = .returned (.tuple #[.string s9_0, .string s9_1]) ∧
  ∃ D : World → Prop, D w2.drew ∧
  ∃ (p13 : Option Addr) (l13 c13 : Nat), (∀ w, D w → w.cell? ⟨k2, 0, none⟩ = some (.slice p13 l13 c13)) ∧
  ∃ (p16 : Option Addr) (l16 c16 : Nat), (∀ w, D w → w.cell? ⟨k2, 0, none⟩ = some (.slice p16 l16 c16)) ∧
  ∃ a18 : Addr, p16 = some a18 ∧ (0 : Int) ≤ n1 ∧ n1 < (l16 : Int) ∧
  ∃ s19 : ByteArray, (∀ w, D w → w.cell? (Addr.add a18 (n1.toNat * 1)) = some (.string s19)) ∧
  Calls Tryz.prog 59 #[.string s19, .string s9_0] w2.drew fun e_1 w3 => ∃ s21 : ByteArray, e_1 = .returned (.string s21) ∧
  D w3 ∧
  ∃ a22 : Addr, p13 = some a22 ∧ (0 : Int) ≤ n1 ∧ n1 < (l13 : Int) ∧
  St (Addr.add a22 (n1.toNat * 1)) (.string s21) w3 fun w4 =>
  R (.tuple #[]) w4
theorem refill_row_byP_eq (p0_0 : Option Addr) (l0_0 c0_0 : Nat) (n0_1 : Int) (n1 : Int) (w : World) (R : Value → World → Prop) : refill_row_byP p0_0 l0_0 c0_0 n0_1 n1 w R = fnP Tryz.prog Tryz.f47 .o [.agg #[.slice p0_0 l0_0 c0_0, .int .i64 n0_1], .int .i64 n1] w R := by kernel_rfl
theorem refill_row_byP_calls {p0_0 : Option Addr} {l0_0 c0_0 : Nat} {n0_1 : Int} {n1 : Int} {w : World} {R : Value → World → Prop} (h : refill_row_byP p0_0 l0_0 c0_0 n0_1 n1 w R) : Calls Tryz.prog 47 #[.agg #[.slice p0_0 l0_0 c0_0, .int .i64 n0_1], .int .i64 n1] w fun e w1 => ∃ v, e = .returned v ∧ R v w1 := fnP_calls callable Tryz.func47 (refill_row_byP_eq p0_0 l0_0 c0_0 n0_1 n1 w R ▸ h)

/-- revetment/scrub.multiples$1 -/
def scrub_multiples_1 (v0 : Value) (k1 : Addr) (k2 : Addr) (w : World) (R : Value → World → Prop) : Prop :=
  ∃ n5 : Int, w.cell? k1 = some (.int .i64 n5) ∧
  LoopP (fun I => I [.int .i64 0] w) fun K vs w1 => ∃ n6 : Int, vs = [.int .i64 n6] ∧
  ((decide (n6 < n5)) = true →
  ∃ s11 : ByteArray, w1.cell? k2 = some (.string s11) ∧
  CallF Tryz.prog v0 [.int .i64 n6, .string s11] w1 fun e w2 => ∃ b12 : Bool, e = .returned (.bool b12) ∧
  ((!b12) = true →
  R (.tuple #[]) w2) ∧
  ((!b12) = false →
  ∃ s14 : ByteArray, w2.cell? k2 = some (.string s14) ∧
  Calls Tryz.prog 38 #[.string s14, .int .u8 2] w2 fun e_1 w3 => ∃ s15 : ByteArray, e_1 = .returned (.string s15) ∧
  St k2 (.string s15) w3 fun w4 =>
  K [.int .i64 (IntKind.i64.wrap (n6 + 1))] w4)) ∧
  ((decide (n6 < n5)) = false →
  R (.tuple #[]) w1)
theorem scrub_multiples_1_eq (v0 : Value) (k1 : Addr) (k2 : Addr) (w : World) (R : Value → World → Prop) : scrub_multiples_1 v0 k1 k2 w R = fnP Tryz.prog Tryz.f49 (.s .o (.b (.l [(6, .one (.int .i64))] .o))) [v0, .pointer (some k1), .pointer (some k2)] w R := by kernel_rfl
theorem scrub_multiples_1_calls {v0 : Value} {k1 : Addr} {k2 : Addr} {w : World} {R : Value → World → Prop} (h : scrub_multiples_1 v0 k1 k2 w R) : Calls Tryz.prog 49 #[v0, .pointer (some k1), .pointer (some k2)] w fun e w1 => ∃ v, e = .returned v ∧ R v w1 := fnP_calls callable Tryz.func49 (scrub_multiples_1_eq v0 k1 k2 w R ▸ h)

/-- revetment/revetmentref01.Xor -/
def revetmentref01_Xor (s0 : ByteArray) (s1 : ByteArray) (w : World) (R : Value → World → Prop) : Prop :=
  Alloc #[] 5 w fun k8 w1 =>
  LoopP (fun I => I [.slice (some ⟨k8, 0, none⟩) 0 0, .int .i64 0] w1) fun K vs w2 => ∃ (p5 : Option Addr) (l5 c5 : Nat), ∃ n6 : Int, vs = [.slice p5 l5 c5, .int .i64 n6] ∧
  ∃ n14 : Int, ∃ w3, (builtin .max #[3, 3] 3 #[false, false] #[.int .i64 (s0.size : Int), .int .i64 (s1.size : Int)]).run Tryz.prog w2 = .ok (.value (.int .i64 n14)) w3 ∧
  ((decide (n6 < n14)) = true →
  Join (fun vs_1 w4 => ∃ n7 : Int, vs_1 = [.int .u8 n7] ∧
  Join (fun vs_2 w5 => ∃ n7_1 : Int, vs_2 = [.int .u8 n7_1] ∧
  Alloc #[.int .u8 n7_1] 5 w5 fun k36 w6 =>
  ∃ (p37 : Option Addr) (l37 c37 : Nat), ∃ w7, (builtin .append #[33, 33] 33 #[false, false] #[.slice p5 l5 c5, .slice (some ⟨k36, 0, none⟩) 1 1]).run Tryz.prog w6 = .ok (.value (.slice p37 l37 c37)) w7 ∧
  K [.slice p37 l37 c37, .int .i64 (IntKind.i64.wrap (n6 + 1))] w7) fun J_1 =>
  ((decide (n6 < (s1.size : Int))) = true →
  ∃ n32 : Int, ∃ w8, (Instr.index 9 (.string s1) (.int .i64 n6)).run Tryz.prog w4 = .ok (.int .u8 n32) w8 ∧
  J_1 [.int .u8 (bits2 .xor .u8 n7 n32)] w8) ∧
  ((decide (n6 < (s1.size : Int))) = false →
  J_1 [.int .u8 n7] w4)) fun J =>
  ((decide (n6 < (s0.size : Int))) = true →
  ∃ n24 : Int, ∃ w9, (Instr.index 9 (.string s0) (.int .i64 n6)).run Tryz.prog w3 = .ok (.int .u8 n24) w9 ∧
  J [.int .u8 n24] w9) ∧
  ((decide (n6 < (s0.size : Int))) = false →
  J [.int .u8 0] w3)) ∧
  ((decide (n6 < n14)) = false →
  ∃ s39 : ByteArray, ∃ w10, (convert 33 9 (.slice p5 l5 c5)).run Tryz.prog w3 = .ok (.string s39) w10 ∧
  R (.string s39) w10)
theorem revetmentref01_Xor_eq (s0 : ByteArray) (s1 : ByteArray) (w : World) (R : Value → World → Prop) : revetmentref01_Xor s0 s1 w R = fnP Tryz.prog Tryz.f50 (.s .o (.s .o (.s (.s .o (.b (.l [(5, .one .slice), (6, .one (.int .i64))] (.s .o (.s (.b (.s .o (.j [(7, .one (.int .u8))] .o (.j [(7, .one (.int .u8))] .o .o)))) .o))))) .o))) [.string s0, .string s1] w R := by kernel_rfl
theorem revetmentref01_Xor_calls {s0 : ByteArray} {s1 : ByteArray} {w : World} {R : Value → World → Prop} (h : revetmentref01_Xor s0 s1 w R) : Calls Tryz.prog 50 #[.string s0, .string s1] w fun e w1 => ∃ v, e = .returned v ∧ R v w1 := fnP_calls callable Tryz.func50 (revetmentref01_Xor_eq s0 s1 w R ▸ h)

/-- revetment/revetmentref05.P -/
def revetmentref05_P (p0 : Option Addr) (l0 c0 : Nat) (w : World) (R : Value → World → Prop) : Prop :=
  LoopP (fun I => I [.string (ByteArray.mk #[]), .int .i64 0] w) fun K vs w1 => ∃ s3 : ByteArray, ∃ n4 : Int, vs = [.string s3, .int .i64 n4] ∧
  ((decide (n4 < (l0 : Int))) = true →
  ∃ a14 : Addr, p0 = some a14 ∧ (0 : Int) ≤ n4 ∧ n4 < (l0 : Int) ∧
  ∃ s15 : ByteArray, w1.cell? (Addr.add a14 (n4.toNat * 1)) = some (.string s15) ∧
  Calls Tryz.prog 50 #[.string s3, .string s15] w1 fun e w2 => ∃ s16 : ByteArray, e = .returned (.string s16) ∧
  K [.string s16, .int .i64 (IntKind.i64.wrap (n4 + 1))] w2) ∧
  ((decide (n4 < (l0 : Int))) = false →
  R (.string s3) w1)
theorem revetmentref05_P_eq (p0 : Option Addr) (l0 c0 : Nat) (w : World) (R : Value → World → Prop) : revetmentref05_P p0 l0 c0 w R = fnP Tryz.prog Tryz.f51 (.s .o (.s .o (.s (.s .o (.b (.l [(3, .one .str), (4, .one (.int .i64))] .o))) .o))) [.slice p0 l0 c0] w R := by kernel_rfl
theorem revetmentref05_P_calls {p0 : Option Addr} {l0 c0 : Nat} {w : World} {R : Value → World → Prop} (h : revetmentref05_P p0 l0 c0 w R) : Calls Tryz.prog 51 #[.slice p0 l0 c0] w fun e w1 => ∃ v, e = .returned v ∧ R v w1 := fnP_calls callable Tryz.func51 (revetmentref05_P_eq p0 l0 c0 w R ▸ h)

/-- revetment/revetmentref05.Q -/
def revetmentref05_Q (p0 : Option Addr) (l0 c0 : Nat) (w : World) (R : Value → World → Prop) : Prop :=
  LoopP (fun I => I [.string (ByteArray.mk #[]), .int .i64 0] w) fun K vs w1 => ∃ s3 : ByteArray, ∃ n4 : Int, vs = [.string s3, .int .i64 n4] ∧
  ((decide (n4 < (l0 : Int))) = true →
  ∃ D : World → Prop, D w1.drew ∧
  ∃ a14 : Addr, p0 = some a14 ∧ (0 : Int) ≤ n4 ∧ n4 < (l0 : Int) ∧
  ∃ s15 : ByteArray, (∀ w, D w → w.cell? (Addr.add a14 (n4.toNat * 1)) = some (.string s15)) ∧
  Calls Tryz.prog 32 #[.int .i64 n4] w1.drew fun e w2 => ∃ n17 : Int, e = .returned (.int .u8 n17) ∧
  D w2 ∧
  Calls Tryz.prog 31 #[.string s15, .int .u8 n17] w2 fun e_1 w3 => ∃ s18 : ByteArray, e_1 = .returned (.string s18) ∧
  D w3 ∧
  Calls Tryz.prog 50 #[.string s3, .string s18] w3 fun e_2 w4 => ∃ s19 : ByteArray, e_2 = .returned (.string s19) ∧
  D w4 ∧
  K [.string s19, .int .i64 (IntKind.i64.wrap (n4 + 1))] w4) ∧
  ((decide (n4 < (l0 : Int))) = false →
  R (.string s3) w1)
theorem revetmentref05_Q_eq (p0 : Option Addr) (l0 c0 : Nat) (w : World) (R : Value → World → Prop) : revetmentref05_Q p0 l0 c0 w R = fnP Tryz.prog Tryz.f52 (.s .o (.s .o (.s (.s .o (.b (.l [(3, .one .str), (4, .one (.int .i64))] .o))) .o))) [.slice p0 l0 c0] w R := by kernel_rfl
theorem revetmentref05_Q_calls {p0 : Option Addr} {l0 c0 : Nat} {w : World} {R : Value → World → Prop} (h : revetmentref05_Q p0 l0 c0 w R) : Calls Tryz.prog 52 #[.slice p0 l0 c0] w fun e w1 => ∃ v, e = .returned v ∧ R v w1 := fnP_calls callable Tryz.func52 (revetmentref05_Q_eq p0 l0 c0 w R ▸ h)

/-- revetment/revetmentref06.has -/
def revetmentref06_has (p0 : Option Addr) (l0 c0 : Nat) (n1 : Int) (w : World) (R : Value → World → Prop) : Prop :=
  LoopP (fun I => I [.int .i64 0] w) fun K vs w1 => ∃ n5 : Int, vs = [.int .i64 n5] ∧
  ((decide (n5 < (l0 : Int))) = true →
  ∃ a14 : Addr, p0 = some a14 ∧ (0 : Int) ≤ n5 ∧ n5 < (l0 : Int) ∧
  ∃ n15 : Int, w1.cell? (Addr.add a14 (n5.toNat * 1)) = some (.int .i64 n15) ∧
  ((n15 == n1) = true →
  R (.bool true) w1) ∧
  ((n15 == n1) = false →
  K [.int .i64 (IntKind.i64.wrap (n5 + 1))] w1)) ∧
  ((decide (n5 < (l0 : Int))) = false →
  R (.bool false) w1)
theorem revetmentref06_has_eq (p0 : Option Addr) (l0 c0 : Nat) (n1 : Int) (w : World) (R : Value → World → Prop) : revetmentref06_has p0 l0 c0 n1 w R = fnP Tryz.prog Tryz.f53 (.s .o (.s (.s .o (.b (.l [(5, .one (.int .i64))] .o))) .o)) [.slice p0 l0 c0, .int .i64 n1] w R := by kernel_rfl
theorem revetmentref06_has_calls {p0 : Option Addr} {l0 c0 : Nat} {n1 : Int} {w : World} {R : Value → World → Prop} (h : revetmentref06_has p0 l0 c0 n1 w R) : Calls Tryz.prog 53 #[.slice p0 l0 c0, .int .i64 n1] w fun e w1 => ∃ v, e = .returned v ∧ R v w1 := fnP_calls callable Tryz.func53 (revetmentref06_has_eq p0 l0 c0 n1 w R ▸ h)

/-- revetment/revetmentref06.size -/
def revetmentref06_size (p0 : Option Addr) (l0 c0 : Nat) (p1 : Option Addr) (l1 c1 : Nat) (w : World) (R : Value → World → Prop) : Prop :=
  LoopP (fun I => I [.int .i64 (-1), .int .i64 0] w) fun K vs w1 => ∃ n5 : Int, ∃ n6 : Int, vs = [.int .i64 n5, .int .i64 n6] ∧
  ((decide (n6 < (l0 : Int))) = true →
  Calls Tryz.prog 53 #[.slice p1 l1 c1, .int .i64 n6] w1 fun e w2 => ∃ b15 : Bool, e = .returned (.bool b15) ∧
  (b15 = true →
  K [.int .i64 n5, .int .i64 (IntKind.i64.wrap (n6 + 1))] w2) ∧
  (b15 = false →
  Join (fun vs_1 w3 => vs_1 = [] ∧
  ∃ a29 : Addr, p0 = some a29 ∧ (0 : Int) ≤ n6 ∧ n6 < (l0 : Int) ∧
  ∃ s30 : ByteArray, w3.cell? (Addr.add a29 (n6.toNat * 1)) = some (.string s30) ∧
  K [.int .i64 (s30.size : Int), .int .i64 (IntKind.i64.wrap (n6 + 1))] w3) fun J =>
  ((decide (n5 ≥ 0)) = true →
  ∃ a21 : Addr, p0 = some a21 ∧ (0 : Int) ≤ n6 ∧ n6 < (l0 : Int) ∧
  ∃ s22 : ByteArray, w2.cell? (Addr.add a21 (n6.toNat * 1)) = some (.string s22) ∧
  (((s22.size : Int) != n5) = true →
  R (.int .i64 (-1)) w2) ∧
  (((s22.size : Int) != n5) = false →
  J [] w2)) ∧
  ((decide (n5 ≥ 0)) = false →
  J [] w2))) ∧
  ((decide (n6 < (l0 : Int))) = false →
  R (.int .i64 n5) w1)
theorem revetmentref06_size_eq (p0 : Option Addr) (l0 c0 : Nat) (p1 : Option Addr) (l1 c1 : Nat) (w : World) (R : Value → World → Prop) : revetmentref06_size p0 l0 c0 p1 l1 c1 w R = fnP Tryz.prog Tryz.f54 (.s .o (.s .o (.s (.s .o (.b (.l [(5, .one (.int .i64)), (6, .one (.int .i64))] (.s .o (.s (.b (.s .o (.j [] .o .o))) .o))))) .o))) [.slice p0 l0 c0, .slice p1 l1 c1] w R := by kernel_rfl
theorem revetmentref06_size_calls {p0 : Option Addr} {l0 c0 : Nat} {p1 : Option Addr} {l1 c1 : Nat} {w : World} {R : Value → World → Prop} (h : revetmentref06_size p0 l0 c0 p1 l1 c1 w R) : Calls Tryz.prog 54 #[.slice p0 l0 c0, .slice p1 l1 c1] w fun e w1 => ∃ v, e = .returned v ∧ R v w1 := fnP_calls callable Tryz.func54 (revetmentref06_size_eq p0 l0 c0 p1 l1 c1 w R ▸ h)

/-- revetment/revetmentref01.Mul -/
def revetmentref01_Mul (n0 : Int) (n1 : Int) (w : World) (R : Value → World → Prop) : Prop :=
  LoopP (fun I => I [.int .i64 0, .int .i64 (IntKind.i64.wrap n0), .int .i64 0] w) fun K vs w1 => ∃ n5 : Int, ∃ n6 : Int, ∃ n7 : Int, vs = [.int .i64 n5, .int .i64 n6, .int .i64 n7] ∧
  ((decide (n7 < 8)) = true →
  Join (fun vs_1 w2 => ∃ n5_1 : Int, vs_1 = [.int .i64 n5_1] ∧
  ((decide ((IntKind.i64.wrap (n6 * 2 ^ 1)) ≥ 256)) = true →
  K [.int .i64 n5_1, .int .i64 (bits2 .xor .i64 (IntKind.i64.wrap (n6 * 2 ^ 1)) 285), .int .i64 (IntKind.i64.wrap (n7 + 1))] w2) ∧
  ((decide ((IntKind.i64.wrap (n6 * 2 ^ 1)) ≥ 256)) = false →
  K [.int .i64 n5_1, .int .i64 (IntKind.i64.wrap (n6 * 2 ^ 1)), .int .i64 (IntKind.i64.wrap (n7 + 1))] w2)) fun J =>
  (0 : Int) ≤ n7 ∧
  (((bits2 .and .i64 (Int.fdiv (IntKind.i64.wrap n1) (2 ^ (min n7.toNat 64))) 1) == 1) = true →
  J [.int .i64 (bits2 .xor .i64 n5 n6)] w1) ∧
  (((bits2 .and .i64 (Int.fdiv (IntKind.i64.wrap n1) (2 ^ (min n7.toNat 64))) 1) == 1) = false →
  J [.int .i64 n5] w1)) ∧
  ((decide (n7 < 8)) = false →
  R (.int .u8 (IntKind.u8.wrap n5)) w1)
theorem revetmentref01_Mul_eq (n0 : Int) (n1 : Int) (w : World) (R : Value → World → Prop) : revetmentref01_Mul n0 n1 w R = fnP Tryz.prog Tryz.f55 (.s .o (.s .o (.s .o (.s (.s .o (.b (.l [(5, .one (.int .i64)), (6, .one (.int .i64)), (7, .one (.int .i64))] (.s .o (.s (.b (.j [(5, .one (.int .i64))] .o .o)) .o))))) .o)))) [.int .u8 n0, .int .u8 n1] w R := by kernel_rfl
theorem revetmentref01_Mul_calls {n0 : Int} {n1 : Int} {w : World} {R : Value → World → Prop} (h : revetmentref01_Mul n0 n1 w R) : Calls Tryz.prog 55 #[.int .u8 n0, .int .u8 n1] w fun e w1 => ∃ v, e = .returned v ∧ R v w1 := fnP_calls callable Tryz.func55 (revetmentref01_Mul_eq n0 n1 w R ▸ h)

/-- revetment/revetmentref01.Pow -/
def revetmentref01_Pow (n0 : Int) (n1 : Int) (w : World) (R : Value → World → Prop) : Prop :=
  ((n1 == 0) = true →
  R (.int .u8 1) w) ∧
  ((n1 == 0) = false →
  ((n0 == 0) = true →
  R (.int .u8 0) w) ∧
  ((n0 == 0) = false →
  Join (fun vs w1 => ∃ n5 : Int, vs = [.int .i64 n5] ∧
  LoopP (fun I => I [.int .u8 1, .int .i64 0] w1) fun K vs_1 w2 => ∃ n6 : Int, ∃ n7 : Int, vs_1 = [.int .u8 n6, .int .i64 n7] ∧
  ((decide (n7 < n5)) = true →
  Calls Tryz.prog 55 #[.int .u8 n6, .int .u8 n0] w2 fun e w3 => ∃ n25 : Int, e = .returned (.int .u8 n25) ∧
  K [.int .u8 n25, .int .i64 (IntKind.i64.wrap (n7 + 1))] w3) ∧
  ((decide (n7 < n5)) = false →
  R (.int .u8 n6) w2)) fun J =>
  ((decide ((Int.tmod n1 255) < 0)) = true →
  J [.int .i64 (IntKind.i64.wrap ((Int.tmod n1 255) + 255))] w) ∧
  ((decide ((Int.tmod n1 255) < 0)) = false →
  J [.int .i64 (Int.tmod n1 255)] w)))
theorem revetmentref01_Pow_eq (n0 : Int) (n1 : Int) (w : World) (R : Value → World → Prop) : revetmentref01_Pow n0 n1 w R = fnP Tryz.prog Tryz.f56 (.s .o (.s .o (.s .o (.s .o (.j [(5, .one (.int .i64))] .o (.s .o (.s (.s .o (.b (.l [(6, .one (.int .u8)), (7, .one (.int .i64))] .o))) .o))))))) [.int .u8 n0, .int .i64 n1] w R := by kernel_rfl
theorem revetmentref01_Pow_calls {n0 : Int} {n1 : Int} {w : World} {R : Value → World → Prop} (h : revetmentref01_Pow n0 n1 w R) : Calls Tryz.prog 56 #[.int .u8 n0, .int .i64 n1] w fun e w1 => ∃ v, e = .returned v ∧ R v w1 := fnP_calls callable Tryz.func56 (revetmentref01_Pow_eq n0 n1 w R ▸ h)

/-- revetment/revetmentref06.one -/
def revetmentref06_one (p0 : Option Addr) (l0 c0 : Nat) (p1 : Option Addr) (l1 c1 : Nat) (w : World) (R : Value → World → Prop) : Prop :=
  Calls Tryz.prog 83 #[.slice p0 l0 c0] w fun e w1 => ∃ n18_0 : Int, ∃ n18_1 : Int, e = .returned (.tuple #[.int .u8 n18_0, .int .u8 n18_1]) ∧
  Alloc #[] 3 w1 fun k21 w2 =>
  LoopP (fun I => I [.slice (some ⟨k21, 0, none⟩) 0 0, .int .i64 0] w2) fun K vs w3 => ∃ (p8 : Option Addr) (l8 c8 : Nat), ∃ n9 : Int, vs = [.slice p8 l8 c8, .int .i64 n9] ∧
  ((decide (n9 < (l1 : Int))) = true →
  ∃ a30 : Addr, p1 = some a30 ∧ (0 : Int) ≤ n9 ∧ n9 < (l1 : Int) ∧
  ∃ n31 : Int, w3.cell? (Addr.add a30 (n9.toNat * 1)) = some (.int .i64 n31) ∧
  ((decide (n31 < (IntKind.i64.wrap ((l0 : Int) - 2)))) = true →
  ∃ a37 : Addr, p1 = some a37 ∧ (0 : Int) ≤ n9 ∧ n9 < (l1 : Int) ∧
  ∃ n38 : Int, w3.cell? (Addr.add a37 (n9.toNat * 1)) = some (.int .i64 n38) ∧
  Alloc #[.int .i64 n38] 3 w3 fun k39 w4 =>
  ∃ (p40 : Option Addr) (l40 c40 : Nat), ∃ w5, (builtin .append #[44, 44] 44 #[false, false] #[.slice p8 l8 c8, .slice (some ⟨k39, 0, none⟩) 1 1]).run Tryz.prog w4 = .ok (.value (.slice p40 l40 c40)) w5 ∧
  K [.slice p40 l40 c40, .int .i64 (IntKind.i64.wrap (n9 + 1))] w5) ∧
  ((decide (n31 < (IntKind.i64.wrap ((l0 : Int) - 2)))) = false →
  K [.slice p8 l8 c8, .int .i64 (IntKind.i64.wrap (n9 + 1))] w3)) ∧
  ((decide (n9 < (l1 : Int))) = false →
  Join (fun vs_1 w6 => vs_1 = [] ∧
  Calls Tryz.prog 83 #[.slice p0 l0 c0] w6 fun e_1 w7 => ∃ n124_0 : Int, ∃ n124_1 : Int, e_1 = .returned (.tuple #[.int .u8 n124_0, .int .u8 n124_1]) ∧
  Join (fun vs_2 w8 => vs_2 = [] ∧
  Calls Tryz.prog 53 #[.slice p1 l1 c1, .int .i64 (IntKind.i64.wrap ((IntKind.i64.wrap ((l0 : Int) - 2)) + 1))] w8 fun e_2 w9 => ∃ b142 : Bool, e_2 = .returned (.bool b142) ∧
  (b142 = true →
  ∃ a149 : Addr, p0 = some a149 ∧ (0 : Int) ≤ IntKind.i64.wrap ((IntKind.i64.wrap ((l0 : Int) - 2)) + 1) ∧ (IntKind.i64.wrap ((IntKind.i64.wrap ((l0 : Int) - 2)) + 1)) < (l0 : Int) ∧
  ∃ n150 : Int, w9.cell? (Addr.add a149 ((IntKind.i64.wrap ((IntKind.i64.wrap ((l0 : Int) - 2)) + 1)).toNat * 1)) = some (.int .u8 n150) ∧
  ∃ a153 : Addr, p0 = some a153 ∧ (0 : Int) ≤ IntKind.i64.wrap ((IntKind.i64.wrap ((l0 : Int) - 2)) + 1) ∧ (IntKind.i64.wrap ((IntKind.i64.wrap ((l0 : Int) - 2)) + 1)) < (l0 : Int) ∧
  St (Addr.add a153 ((IntKind.i64.wrap ((IntKind.i64.wrap ((l0 : Int) - 2)) + 1)).toNat * 1)) (.int .u8 (bits2 .xor .u8 n150 n124_1)) w9 fun w10 =>
  R (.slice p0 l0 c0) w10) ∧
  (b142 = false →
  R (.slice p0 l0 c0) w9)) fun J_1 =>
  Calls Tryz.prog 53 #[.slice p1 l1 c1, .int .i64 (IntKind.i64.wrap ((l0 : Int) - 2))] w7 fun e_3 w11 => ∃ b129 : Bool, e_3 = .returned (.bool b129) ∧
  (b129 = true →
  ∃ a134 : Addr, p0 = some a134 ∧ (0 : Int) ≤ IntKind.i64.wrap ((l0 : Int) - 2) ∧ (IntKind.i64.wrap ((l0 : Int) - 2)) < (l0 : Int) ∧
  ∃ n135 : Int, w11.cell? (Addr.add a134 ((IntKind.i64.wrap ((l0 : Int) - 2)).toNat * 1)) = some (.int .u8 n135) ∧
  ∃ a138 : Addr, p0 = some a138 ∧ (0 : Int) ≤ IntKind.i64.wrap ((l0 : Int) - 2) ∧ (IntKind.i64.wrap ((l0 : Int) - 2)) < (l0 : Int) ∧
  St (Addr.add a138 ((IntKind.i64.wrap ((l0 : Int) - 2)).toNat * 1)) (.int .u8 (bits2 .xor .u8 n135 n124_0)) w11 fun w12 =>
  J_1 [] w12) ∧
  (b129 = false →
  J_1 [] w11)) fun J =>
  (((l8 : Int) == 1) = true →
  Calls Tryz.prog 53 #[.slice p1 l1 c1, .int .i64 (IntKind.i64.wrap ((l0 : Int) - 2))] w3 fun e_4 w13 => ∃ b48 : Bool, e_4 = .returned (.bool b48) ∧
  ((!b48) = true →
  ∃ a53 : Addr, p8 = some a53 ∧ (0 : Int) ≤ 0 ∧ 0 < (l8 : Int) ∧
  ∃ n54 : Int, w13.cell? a53 = some (.int .i64 n54) ∧
  ∃ a56 : Addr, p0 = some a56 ∧ (0 : Int) ≤ n54 ∧ n54 < (l0 : Int) ∧
  St (Addr.add a56 (n54.toNat * 1)) (.int .u8 n18_0) w13 fun w14 =>
  J [] w14) ∧
  ((!b48) = false →
  (((l8 : Int) == 1) = true →
  LoopP (fun I_1 => I_1 [.int .i64 0] w13) fun K_1 vs_3 w15 => ∃ n10 : Int, vs_3 = [.int .i64 n10] ∧
  ((decide (n10 < 256)) = true →
  ∃ a68 : Addr, p8 = some a68 ∧ (0 : Int) ≤ 0 ∧ 0 < (l8 : Int) ∧
  ∃ n69 : Int, w15.cell? a68 = some (.int .i64 n69) ∧
  Calls Tryz.prog 32 #[.int .i64 n69] w15 fun e_5 w16 => ∃ n70 : Int, e_5 = .returned (.int .u8 n70) ∧
  Calls Tryz.prog 55 #[.int .u8 (IntKind.u8.wrap n10), .int .u8 n70] w16 fun e_6 w17 => ∃ n71 : Int, e_6 = .returned (.int .u8 n71) ∧
  ((n71 == n18_1) = true →
  ∃ a76 : Addr, p8 = some a76 ∧ (0 : Int) ≤ 0 ∧ 0 < (l8 : Int) ∧
  ∃ n77 : Int, w17.cell? a76 = some (.int .i64 n77) ∧
  ∃ a80 : Addr, p0 = some a80 ∧ (0 : Int) ≤ n77 ∧ n77 < (l0 : Int) ∧
  St (Addr.add a80 (n77.toNat * 1)) (.int .u8 (IntKind.u8.wrap n10)) w17 fun w18 =>
  K_1 [.int .i64 (IntKind.i64.wrap (n10 + 1))] w18) ∧
  ((n71 == n18_1) = false →
  K_1 [.int .i64 (IntKind.i64.wrap (n10 + 1))] w17)) ∧
  ((decide (n10 < 256)) = false →
  J [] w15)) ∧
  (((l8 : Int) == 1) = false →
  (((l8 : Int) == 2) = true →
  LoopP (fun I_2 => I_2 [.int .i64 0] w13) fun K_2 vs_4 w19 => ∃ n11 : Int, vs_4 = [.int .i64 n11] ∧
  ((decide (n11 < 256)) = true →
  ∃ D : World → Prop, D w19.drew ∧
  ∃ a96 : Addr, p8 = some a96 ∧ (0 : Int) ≤ 0 ∧ 0 < (l8 : Int) ∧
  ∃ n97 : Int, (∀ w, D w → w.cell? a96 = some (.int .i64 n97)) ∧
  Calls Tryz.prog 32 #[.int .i64 n97] w19.drew fun e_7 w20 => ∃ n98 : Int, e_7 = .returned (.int .u8 n98) ∧
  D w20 ∧
  Calls Tryz.prog 55 #[.int .u8 (IntKind.u8.wrap n11), .int .u8 n98] w20 fun e_8 w21 => ∃ n99 : Int, e_8 = .returned (.int .u8 n99) ∧
  D w21 ∧
  ∃ a102 : Addr, p8 = some a102 ∧ (0 : Int) ≤ 1 ∧ 1 < (l8 : Int) ∧
  ∃ n103 : Int, (∀ w, D w → w.cell? (a102.add 1) = some (.int .i64 n103)) ∧
  Calls Tryz.prog 32 #[.int .i64 n103] w21 fun e_9 w22 => ∃ n104 : Int, e_9 = .returned (.int .u8 n104) ∧
  D w22 ∧
  Calls Tryz.prog 55 #[.int .u8 (bits2 .xor .u8 (IntKind.u8.wrap n11) n18_0), .int .u8 n104] w22 fun e_10 w23 => ∃ n105 : Int, e_10 = .returned (.int .u8 n105) ∧
  D w23 ∧
  (((bits2 .xor .u8 n99 n105) == n18_1) = true →
  ∃ a111 : Addr, p8 = some a111 ∧ (0 : Int) ≤ 0 ∧ 0 < (l8 : Int) ∧
  ∃ n112 : Int, w23.cell? a111 = some (.int .i64 n112) ∧
  ∃ a115 : Addr, p0 = some a115 ∧ (0 : Int) ≤ n112 ∧ n112 < (l0 : Int) ∧
  St (Addr.add a115 (n112.toNat * 1)) (.int .u8 (IntKind.u8.wrap n11)) w23 fun w24 =>
  ∃ a118 : Addr, p8 = some a118 ∧ (0 : Int) ≤ 1 ∧ 1 < (l8 : Int) ∧
  ∃ n119 : Int, w24.cell? (a118.add 1) = some (.int .i64 n119) ∧
  ∃ a121 : Addr, p0 = some a121 ∧ (0 : Int) ≤ n119 ∧ n119 < (l0 : Int) ∧
  St (Addr.add a121 (n119.toNat * 1)) (.int .u8 (bits2 .xor .u8 (IntKind.u8.wrap n11) n18_0)) w24 fun w25 =>
  K_2 [.int .i64 (IntKind.i64.wrap (n11 + 1))] w25) ∧
  (((bits2 .xor .u8 n99 n105) == n18_1) = false →
  K_2 [.int .i64 (IntKind.i64.wrap (n11 + 1))] w23)) ∧
  ((decide (n11 < 256)) = false →
  J [] w19)) ∧
  (((l8 : Int) == 2) = false →
  J [] w13)))) ∧
  (((l8 : Int) == 1) = false →
  (((l8 : Int) == 1) = true →
  LoopP (fun I_3 => I_3 [.int .i64 0] w3) fun K_3 vs_5 w26 => ∃ n10_1 : Int, vs_5 = [.int .i64 n10_1] ∧
  ((decide (n10_1 < 256)) = true →
  ∃ a68_1 : Addr, p8 = some a68_1 ∧ (0 : Int) ≤ 0 ∧ 0 < (l8 : Int) ∧
  ∃ n69_1 : Int, w26.cell? a68_1 = some (.int .i64 n69_1) ∧
  Calls Tryz.prog 32 #[.int .i64 n69_1] w26 fun e_11 w27 => ∃ n70_1 : Int, e_11 = .returned (.int .u8 n70_1) ∧
  Calls Tryz.prog 55 #[.int .u8 (IntKind.u8.wrap n10_1), .int .u8 n70_1] w27 fun e_12 w28 => ∃ n71_1 : Int, e_12 = .returned (.int .u8 n71_1) ∧
  ((n71_1 == n18_1) = true →
  ∃ a76_1 : Addr, p8 = some a76_1 ∧ (0 : Int) ≤ 0 ∧ 0 < (l8 : Int) ∧
  ∃ n77_1 : Int, w28.cell? a76_1 = some (.int .i64 n77_1) ∧
  ∃ a80_1 : Addr, p0 = some a80_1 ∧ (0 : Int) ≤ n77_1 ∧ n77_1 < (l0 : Int) ∧
  St (Addr.add a80_1 (n77_1.toNat * 1)) (.int .u8 (IntKind.u8.wrap n10_1)) w28 fun w29 =>
  K_3 [.int .i64 (IntKind.i64.wrap (n10_1 + 1))] w29) ∧
  ((n71_1 == n18_1) = false →
  K_3 [.int .i64 (IntKind.i64.wrap (n10_1 + 1))] w28)) ∧
  ((decide (n10_1 < 256)) = false →
  J [] w26)) ∧
  (((l8 : Int) == 1) = false →
  (((l8 : Int) == 2) = true →
  LoopP (fun I_4 => I_4 [.int .i64 0] w3) fun K_4 vs_6 w30 => ∃ n11_1 : Int, vs_6 = [.int .i64 n11_1] ∧
  ((decide (n11_1 < 256)) = true →
  ∃ D_1 : World → Prop, D_1 w30.drew ∧
  ∃ a96_1 : Addr, p8 = some a96_1 ∧ (0 : Int) ≤ 0 ∧ 0 < (l8 : Int) ∧
  ∃ n97_1 : Int, (∀ w, D_1 w → w.cell? a96_1 = some (.int .i64 n97_1)) ∧
  Calls Tryz.prog 32 #[.int .i64 n97_1] w30.drew fun e_13 w31 => ∃ n98_1 : Int, e_13 = .returned (.int .u8 n98_1) ∧
  D_1 w31 ∧
  Calls Tryz.prog 55 #[.int .u8 (IntKind.u8.wrap n11_1), .int .u8 n98_1] w31 fun e_14 w32 => ∃ n99_1 : Int, e_14 = .returned (.int .u8 n99_1) ∧
  D_1 w32 ∧
  ∃ a102_1 : Addr, p8 = some a102_1 ∧ (0 : Int) ≤ 1 ∧ 1 < (l8 : Int) ∧
  ∃ n103_1 : Int, (∀ w, D_1 w → w.cell? (a102_1.add 1) = some (.int .i64 n103_1)) ∧
  Calls Tryz.prog 32 #[.int .i64 n103_1] w32 fun e_15 w33 => ∃ n104_1 : Int, e_15 = .returned (.int .u8 n104_1) ∧
  D_1 w33 ∧
  Calls Tryz.prog 55 #[.int .u8 (bits2 .xor .u8 (IntKind.u8.wrap n11_1) n18_0), .int .u8 n104_1] w33 fun e_16 w34 => ∃ n105_1 : Int, e_16 = .returned (.int .u8 n105_1) ∧
  D_1 w34 ∧
  (((bits2 .xor .u8 n99_1 n105_1) == n18_1) = true →
  ∃ a111_1 : Addr, p8 = some a111_1 ∧ (0 : Int) ≤ 0 ∧ 0 < (l8 : Int) ∧
  ∃ n112_1 : Int, w34.cell? a111_1 = some (.int .i64 n112_1) ∧
  ∃ a115_1 : Addr, p0 = some a115_1 ∧ (0 : Int) ≤ n112_1 ∧ n112_1 < (l0 : Int) ∧
  St (Addr.add a115_1 (n112_1.toNat * 1)) (.int .u8 (IntKind.u8.wrap n11_1)) w34 fun w35 =>
  ∃ a118_1 : Addr, p8 = some a118_1 ∧ (0 : Int) ≤ 1 ∧ 1 < (l8 : Int) ∧
  ∃ n119_1 : Int, w35.cell? (a118_1.add 1) = some (.int .i64 n119_1) ∧
  ∃ a121_1 : Addr, p0 = some a121_1 ∧ (0 : Int) ≤ n119_1 ∧ n119_1 < (l0 : Int) ∧
  St (Addr.add a121_1 (n119_1.toNat * 1)) (.int .u8 (bits2 .xor .u8 (IntKind.u8.wrap n11_1) n18_0)) w35 fun w36 =>
  K_4 [.int .i64 (IntKind.i64.wrap (n11_1 + 1))] w36) ∧
  (((bits2 .xor .u8 n99_1 n105_1) == n18_1) = false →
  K_4 [.int .i64 (IntKind.i64.wrap (n11_1 + 1))] w34)) ∧
  ((decide (n11_1 < 256)) = false →
  J [] w30)) ∧
  (((l8 : Int) == 2) = false →
  J [] w3))))
theorem revetmentref06_one_eq (p0 : Option Addr) (l0 c0 : Nat) (p1 : Option Addr) (l1 c1 : Nat) (w : World) (R : Value → World → Prop) : revetmentref06_one p0 l0 c0 p1 l1 c1 w R = fnP Tryz.prog Tryz.f57 (.s .o (.s .o (.s .o (.s .o (.s (.s .o (.b (.l [(8, .one .slice), (9, .one (.int .i64))] .o))) (.j [] (.b (.s .o (.c .o (.s .o (.c (.s .o (.b (.l [(10, .one (.int .i64))] .o))) (.s .o (.c (.s .o (.b (.l [(11, .one (.int .i64))] .o))) .o))))))) (.s .o (.j [] .o .o)))))))) [.slice p0 l0 c0, .slice p1 l1 c1] w R := by kernel_rfl
theorem revetmentref06_one_calls {p0 : Option Addr} {l0 c0 : Nat} {p1 : Option Addr} {l1 c1 : Nat} {w : World} {R : Value → World → Prop} (h : revetmentref06_one p0 l0 c0 p1 l1 c1 w R) : Calls Tryz.prog 57 #[.slice p0 l0 c0, .slice p1 l1 c1] w fun e w1 => ∃ v, e = .returned v ∧ R v w1 := fnP_calls callable Tryz.func57 (revetmentref06_one_eq p0 l0 c0 p1 l1 c1 w R ▸ h)

/-- revetment/revetmentref06.at -/
def revetmentref06_at (p0 : Option Addr) (l0 c0 : Nat) (p1 : Option Addr) (l1 c1 : Nat) (n2 : Int) (w : World) (R : Value → World → Prop) : Prop :=
  Alloc #[] 5 w fun k10 w1 =>
  LoopP (fun I => I [.slice (some ⟨k10, 0, none⟩) 0 0, .int .i64 0] w1) fun K vs w2 => ∃ (p7 : Option Addr) (l7 c7 : Nat), ∃ n8 : Int, vs = [.slice p7 l7 c7, .int .i64 n8] ∧
  ((decide (n8 < (l0 : Int))) = true →
  Join (fun vs_1 w3 => ∃ n9 : Int, vs_1 = [.int .u8 n9] ∧
  Alloc #[.int .u8 n9] 5 w3 fun k29 w4 =>
  ∃ (p30 : Option Addr) (l30 c30 : Nat), ∃ w5, (builtin .append #[33, 33] 33 #[false, false] #[.slice p7 l7 c7, .slice (some ⟨k29, 0, none⟩) 1 1]).run Tryz.prog w4 = .ok (.value (.slice p30 l30 c30)) w5 ∧
  K [.slice p30 l30 c30, .int .i64 (IntKind.i64.wrap (n8 + 1))] w5) fun J =>
  Calls Tryz.prog 53 #[.slice p1 l1 c1, .int .i64 n8] w2 fun e w6 => ∃ b19 : Bool, e = .returned (.bool b19) ∧
  ((!b19) = true →
  ∃ a23 : Addr, p0 = some a23 ∧ (0 : Int) ≤ n8 ∧ n8 < (l0 : Int) ∧
  ∃ s24 : ByteArray, w6.cell? (Addr.add a23 (n8.toNat * 1)) = some (.string s24) ∧
  ∃ n26 : Int, ∃ w7, (Instr.index 9 (.string s24) (.int .i64 n2)).run Tryz.prog w6 = .ok (.int .u8 n26) w7 ∧
  J [.int .u8 n26] w7) ∧
  ((!b19) = false →
  J [.int .u8 0] w6)) ∧
  ((decide (n8 < (l0 : Int))) = false →
  R (.slice p7 l7 c7) w2)
theorem revetmentref06_at_eq (p0 : Option Addr) (l0 c0 : Nat) (p1 : Option Addr) (l1 c1 : Nat) (n2 : Int) (w : World) (R : Value → World → Prop) : revetmentref06_at p0 l0 c0 p1 l1 c1 n2 w R = fnP Tryz.prog Tryz.f58 (.s .o (.s .o (.s (.s .o (.b (.l [(7, .one .slice), (8, .one (.int .i64))] (.s .o (.s (.b (.s .o (.j [(9, .one (.int .u8))] .o .o))) .o))))) .o))) [.slice p0 l0 c0, .slice p1 l1 c1, .int .i64 n2] w R := by kernel_rfl
theorem revetmentref06_at_calls {p0 : Option Addr} {l0 c0 : Nat} {p1 : Option Addr} {l1 c1 : Nat} {n2 : Int} {w : World} {R : Value → World → Prop} (h : revetmentref06_at p0 l0 c0 p1 l1 c1 n2 w R) : Calls Tryz.prog 58 #[.slice p0 l0 c0, .slice p1 l1 c1, .int .i64 n2] w fun e w1 => ∃ v, e = .returned v ∧ R v w1 := fnP_calls callable Tryz.func58 (revetmentref06_at_eq p0 l0 c0 p1 l1 c1 n2 w R ▸ h)

/-- revetment/gf.Xor -/
def gf_Xor (s0 : ByteArray) (s1 : ByteArray) (w : World) (R : Value → World → Prop) : Prop :=
  Join (fun vs w1 => ∃ s0_1 : ByteArray, ∃ s1_1 : ByteArray, vs = [.string s0_1, .string s1_1] ∧
  ∃ (p15 : Option Addr) (l15 c15 : Nat), ∃ w2, (convert 9 33 (.string s0_1)).run Tryz.prog w1 = .ok (.slice p15 l15 c15) w2 ∧
  LoopP (fun I => I [.int .i64 0] w2) fun K vs_1 w3 => ∃ n18 : Int, vs_1 = [.int .i64 n18] ∧
  ((decide (n18 < (s1_1.size : Int))) = true →
  ∃ D : World → Prop, D w3.drew ∧
  ∃ a23 : Addr, p15 = some a23 ∧ (0 : Int) ≤ n18 ∧ n18 < (l15 : Int) ∧
  ∃ n24 : Int, (∀ w, D w → w.cell? (Addr.add a23 (n18.toNat * 1)) = some (.int .u8 n24)) ∧
  ∃ n27 : Int, (∀ w, D w → (Instr.index 9 (.string s1_1) (.int .i64 n18)).run Tryz.prog w = .ok (.int .u8 n27) w) ∧
  ∃ a29 : Addr, p15 = some a29 ∧ (0 : Int) ≤ n18 ∧ n18 < (l15 : Int) ∧
  St (Addr.add a29 (n18.toNat * 1)) (.int .u8 (bits2 .xor .u8 n24 n27)) w3.drew fun w4 =>
  K [.int .i64 (IntKind.i64.wrap (n18 + 1))] w4) ∧
  ((decide (n18 < (s1_1.size : Int))) = false →
  ∃ s32 : ByteArray, ∃ w5, (convert 33 9 (.slice p15 l15 c15)).run Tryz.prog w3 = .ok (.string s32) w5 ∧
  R (.string s32) w5)) fun J =>
  ((decide ((s0.size : Int) < (s1.size : Int))) = true →
  J [.string s1, .string s0] w) ∧
  ((decide ((s0.size : Int) < (s1.size : Int))) = false →
  J [.string s0, .string s1] w)
theorem gf_Xor_eq (s0 : ByteArray) (s1 : ByteArray) (w : World) (R : Value → World → Prop) : gf_Xor s0 s1 w R = fnP Tryz.prog Tryz.f59 (.s .o (.j [(0, .one .str), (1, .one .str)] .o (.s .o (.s (.s .o (.b (.l [(18, .one (.int .i64))] .o))) .o)))) [.string s0, .string s1] w R := by kernel_rfl
theorem gf_Xor_calls {s0 : ByteArray} {s1 : ByteArray} {w : World} {R : Value → World → Prop} (h : gf_Xor s0 s1 w R) : Calls Tryz.prog 59 #[.string s0, .string s1] w fun e w1 => ∃ v, e = .returned v ∧ R v w1 := fnP_calls callable Tryz.func59 (gf_Xor_eq s0 s1 w R ▸ h)

/-- revetment/syndrome.powers$1 -/
def syndrome_powers_1 (v0 : Value) (w : World) (R : Value → World → Prop) : Prop :=
  LoopP (fun I => I [.int .u8 1] w) fun K vs w1 => ∃ n2 : Int, vs = [.int .u8 n2] ∧
  CallF Tryz.prog v0 [.int .u8 n2] w1 fun e w2 => ∃ b5 : Bool, e = .returned (.bool b5) ∧
  (b5 = true →
  Calls Tryz.prog 61 #[.int .u8 n2, .int .u8 2] w2 fun e_1 w3 => ∃ n7 : Int, e_1 = .returned (.int .u8 n7) ∧
  K [.int .u8 n7] w3) ∧
  (b5 = false →
  R (.tuple #[]) w2)
theorem syndrome_powers_1_eq (v0 : Value) (w : World) (R : Value → World → Prop) : syndrome_powers_1 v0 w R = fnP Tryz.prog Tryz.f60 (.s .o (.b (.l [(2, .one (.int .u8))] .o))) [v0] w R := by kernel_rfl
theorem syndrome_powers_1_calls {v0 : Value} {w : World} {R : Value → World → Prop} (h : syndrome_powers_1 v0 w R) : Calls Tryz.prog 60 #[v0] w fun e w1 => ∃ v, e = .returned v ∧ R v w1 := fnP_calls callable Tryz.func60 (syndrome_powers_1_eq v0 w R ▸ h)

/-- revetment/gf.Mul -/
def gf_Mul (n0 : Int) (n1 : Int) (w : World) (R : Value → World → Prop) : Prop :=
  LoopP (fun I => I [.int .u8 n0, .int .u8 n1, .int .u8 0] w) fun K vs w1 => ∃ n0_1 : Int, ∃ n1_1 : Int, ∃ n5 : Int, vs = [.int .u8 n0_1, .int .u8 n1_1, .int .u8 n5] ∧
  ((decide (n1_1 > 0)) = true →
  Join (fun vs_1 w2 => ∃ n5_1 : Int, vs_1 = [.int .u8 n5_1] ∧
  (((Int.fdiv n0_1 (2 ^ 7)) == 1) = true →
  K [.int .u8 (bits2 .xor .u8 (IntKind.u8.wrap (n0_1 * 2 ^ 1)) 29), .int .u8 (Int.fdiv n1_1 (2 ^ 1)), .int .u8 n5_1] w2) ∧
  (((Int.fdiv n0_1 (2 ^ 7)) == 1) = false →
  K [.int .u8 (IntKind.u8.wrap (n0_1 * 2 ^ 1)), .int .u8 (Int.fdiv n1_1 (2 ^ 1)), .int .u8 n5_1] w2)) fun J =>
  (((bits2 .and .u8 n1_1 1) == 1) = true →
  J [.int .u8 (bits2 .xor .u8 n5 n0_1)] w1) ∧
  (((bits2 .and .u8 n1_1 1) == 1) = false →
  J [.int .u8 n5] w1)) ∧
  ((decide (n1_1 > 0)) = false →
  R (.int .u8 n5) w1)
theorem gf_Mul_eq (n0 : Int) (n1 : Int) (w : World) (R : Value → World → Prop) : gf_Mul n0 n1 w R = fnP Tryz.prog Tryz.f61 (.s .o (.s .o (.s (.b (.l [(0, .one (.int .u8)), (1, .one (.int .u8)), (5, .one (.int .u8))] (.s .o (.s (.b (.j [(5, .one (.int .u8))] .o .o)) .o)))) .o))) [.int .u8 n0, .int .u8 n1] w R := by kernel_rfl
theorem gf_Mul_calls {n0 : Int} {n1 : Int} {w : World} {R : Value → World → Prop} (h : gf_Mul n0 n1 w R) : Calls Tryz.prog 61 #[.int .u8 n0, .int .u8 n1] w fun e w1 => ∃ v, e = .returned v ∧ R v w1 := fnP_calls callable Tryz.func61 (gf_Mul_eq n0 n1 w R ▸ h)

/-- revetment/gf.fresh -/
def gf_fresh (w : World) (R : Value → World → Prop) : Prop :=
  Alloc ((zc Tryz.prog 126).getD #[]) 126 w fun k1 w1 =>
  Calls Tryz.prog 84 #[.pointer (some ⟨k1, 0, none⟩)] w1 fun e w2 => ∃ p2 : Option Addr, e = .returned (.pointer p2) ∧
  R (.pointer p2) w2
theorem gf_fresh_eq (w : World) (R : Value → World → Prop) : gf_fresh w R = fnP Tryz.prog Tryz.f62 .o [] w R := by kernel_rfl
theorem gf_fresh_calls {w : World} {R : Value → World → Prop} (h : gf_fresh w R) : Calls Tryz.prog 62 #[] w fun e w1 => ∃ v, e = .returned v ∧ R v w1 := fnP_calls callable Tryz.func62 (gf_fresh_eq w R ▸ h)

/-- (*revetment/gf.tables).mul -/
def gf_tables_mul (p0 : Option Addr) (n1 : Int) (n2 : Int) (w : World) (R : Value → World → Prop) : Prop :=
  ((n1 == 0) = true →
  R (.int .u8 0) w) ∧
  ((n1 == 0) = false →
  ((n2 == 0) = true →
  R (.int .u8 0) w) ∧
  ((n2 == 0) = false →
  ∃ D : World → Prop, D w.drew ∧
  ∃ a16 : Addr, p0 = some a16 ∧
  (0 : Int) ≤ n1 ∧ n1 < (256 : Int) ∧
  ∃ n19 : Int, (∀ w, D w → w.cell? (Addr.add (a16.add 514) (n1.toNat * 1)) = some (.int .i64 n19)) ∧
  ∃ a22 : Addr, p0 = some a22 ∧
  (0 : Int) ≤ n2 ∧ n2 < (256 : Int) ∧
  ∃ n25 : Int, (∀ w, D w → w.cell? (Addr.add (a22.add 514) (n2.toNat * 1)) = some (.int .i64 n25)) ∧
  ∃ a27 : Addr, p0 = some a27 ∧
  (0 : Int) ≤ (IntKind.i64.wrap (n19 + n25)) ∧ (IntKind.i64.wrap (n19 + n25)) < (510 : Int) ∧
  ∃ n30 : Int, (∀ w, D w → w.cell? (Addr.add (a27.add 4) ((IntKind.i64.wrap (n19 + n25)).toNat * 1)) = some (.int .u8 n30)) ∧
  R (.int .u8 n30) w.drew))
theorem gf_tables_mul_eq (p0 : Option Addr) (n1 : Int) (n2 : Int) (w : World) (R : Value → World → Prop) : gf_tables_mul p0 n1 n2 w R = fnP Tryz.prog Tryz.f63 .o [.pointer p0, .int .u8 n1, .int .u8 n2] w R := by kernel_rfl
theorem gf_tables_mul_calls {p0 : Option Addr} {n1 : Int} {n2 : Int} {w : World} {R : Value → World → Prop} (h : gf_tables_mul p0 n1 n2 w R) : Calls Tryz.prog 63 #[.pointer p0, .int .u8 n1, .int .u8 n2] w fun e w1 => ∃ v, e = .returned v ∧ R v w1 := fnP_calls callable Tryz.func63 (gf_tables_mul_eq p0 n1 n2 w R ▸ h)

/-- revetment/gf.Inv -/
def gf_Inv (n0 : Int) (w : World) (R : Value → World → Prop) : Prop :=
  ((n0 == 0) = true →
  R (.tuple #[.int .u8 0, .bool false]) w) ∧
  ((n0 == 0) = false →
  Calls Tryz.prog 62 #[] w fun e w1 => ∃ p7 : Option Addr, e = .returned (.pointer p7) ∧
  ∃ D : World → Prop, D w1.drew ∧
  ∃ a11 : Addr, p7 = some a11 ∧
  (0 : Int) ≤ n0 ∧ n0 < (256 : Int) ∧
  ∃ n14 : Int, (∀ w, D w → w.cell? (Addr.add (a11.add 514) (n0.toNat * 1)) = some (.int .i64 n14)) ∧
  Calls Tryz.prog 93 #[.pointer p7, .int .i64 (IntKind.i64.wrap (0 - n14))] w1.drew fun e_1 w2 => ∃ n16 : Int, e_1 = .returned (.int .u8 n16) ∧
  D w2 ∧
  ∃ a18 : Addr, p7 = some a18 ∧
  Calls Tryz.prog 94 #[.pointer (some (a18.add 3))] w2 fun e_2 w3 => ∃ n20 : Int, e_2 = .returned (.int .i32 n20) ∧
  D w3 ∧
  R (.tuple #[.int .u8 n16, .bool (n20 == 1)]) w3)
theorem gf_Inv_eq (n0 : Int) (w : World) (R : Value → World → Prop) : gf_Inv n0 w R = fnP Tryz.prog Tryz.f74 .o [.int .u8 n0] w R := by kernel_rfl
theorem gf_Inv_calls {n0 : Int} {w : World} {R : Value → World → Prop} (h : gf_Inv n0 w R) : Calls Tryz.prog 74 #[.int .u8 n0] w fun e w1 => ∃ v, e = .returned v ∧ R v w1 := fnP_calls callable Tryz.func74 (gf_Inv_eq n0 w R ▸ h)

/-- revetment/gf.Exp -/
def gf_Exp (n0 : Int) (w : World) (R : Value → World → Prop) : Prop :=
  Calls Tryz.prog 62 #[] w fun e w1 => ∃ p3 : Option Addr, e = .returned (.pointer p3) ∧
  Calls Tryz.prog 93 #[.pointer p3, .int .i64 n0] w1 fun e_1 w2 => ∃ n5 : Int, e_1 = .returned (.int .u8 n5) ∧
  R (.int .u8 n5) w2
theorem gf_Exp_eq (n0 : Int) (w : World) (R : Value → World → Prop) : gf_Exp n0 w R = fnP Tryz.prog Tryz.f75 .o [.int .i64 n0] w R := by kernel_rfl
theorem gf_Exp_calls {n0 : Int} {w : World} {R : Value → World → Prop} (h : gf_Exp n0 w R) : Calls Tryz.prog 75 #[.int .i64 n0] w fun e w1 => ∃ v, e = .returned v ∧ R v w1 := fnP_calls callable Tryz.func75 (gf_Exp_eq n0 w R ▸ h)

/-- revetment/revetmentref06.sums -/
def revetmentref06_sums (p0 : Option Addr) (l0 c0 : Nat) (w : World) (R : Value → World → Prop) : Prop :=
  ∃ a13 : Addr, p0 = some a13 ∧ (0 : Int) ≤ IntKind.i64.wrap ((l0 : Int) - 2) ∧ (IntKind.i64.wrap ((l0 : Int) - 2)) < (l0 : Int) ∧
  ∃ n14 : Int, w.cell? (Addr.add a13 ((IntKind.i64.wrap ((l0 : Int) - 2)).toNat * 1)) = some (.int .u8 n14) ∧
  ∃ a18 : Addr, p0 = some a18 ∧ (0 : Int) ≤ IntKind.i64.wrap ((IntKind.i64.wrap ((l0 : Int) - 2)) + 1) ∧ (IntKind.i64.wrap ((IntKind.i64.wrap ((l0 : Int) - 2)) + 1)) < (l0 : Int) ∧
  ∃ n19 : Int, w.cell? (Addr.add a18 ((IntKind.i64.wrap ((IntKind.i64.wrap ((l0 : Int) - 2)) + 1)).toNat * 1)) = some (.int .u8 n19) ∧
  LoopP (fun I => I [.int .u8 n14, .int .u8 n19, .int .i64 0] w) fun K vs w1 => ∃ n5 : Int, ∃ n6 : Int, ∃ n7 : Int, vs = [.int .u8 n5, .int .u8 n6, .int .i64 n7] ∧
  ((decide (n7 < (IntKind.i64.wrap ((l0 : Int) - 2)))) = true →
  ∃ a28 : Addr, p0 = some a28 ∧ (0 : Int) ≤ n7 ∧ n7 < (l0 : Int) ∧
  ∃ n29 : Int, w1.cell? (Addr.add a28 (n7.toNat * 1)) = some (.int .u8 n29) ∧
  ∃ D : World → Prop, D w1.drew ∧
  ∃ a34 : Addr, p0 = some a34 ∧ (0 : Int) ≤ n7 ∧ n7 < (l0 : Int) ∧
  ∃ n35 : Int, (∀ w, D w → w.cell? (Addr.add a34 (n7.toNat * 1)) = some (.int .u8 n35)) ∧
  Calls Tryz.prog 32 #[.int .i64 n7] w1.drew fun e w2 => ∃ n37 : Int, e = .returned (.int .u8 n37) ∧
  D w2 ∧
  Calls Tryz.prog 55 #[.int .u8 n35, .int .u8 n37] w2 fun e_1 w3 => ∃ n38 : Int, e_1 = .returned (.int .u8 n38) ∧
  D w3 ∧
  K [.int .u8 (bits2 .xor .u8 n5 n29), .int .u8 (bits2 .xor .u8 n6 n38), .int .i64 (IntKind.i64.wrap (n7 + 1))] w3) ∧
  ((decide (n7 < (IntKind.i64.wrap ((l0 : Int) - 2)))) = false →
  R (.tuple #[.int .u8 n5, .int .u8 n6]) w1)
theorem revetmentref06_sums_eq (p0 : Option Addr) (l0 c0 : Nat) (w : World) (R : Value → World → Prop) : revetmentref06_sums p0 l0 c0 w R = fnP Tryz.prog Tryz.f83 (.s .o (.s .o (.s .o (.s .o (.s (.s .o (.b (.l [(5, .one (.int .u8)), (6, .one (.int .u8)), (7, .one (.int .i64))] .o))) .o))))) [.slice p0 l0 c0] w R := by kernel_rfl
theorem revetmentref06_sums_calls {p0 : Option Addr} {l0 c0 : Nat} {w : World} {R : Value → World → Prop} (h : revetmentref06_sums p0 l0 c0 w R) : Calls Tryz.prog 83 #[.slice p0 l0 c0] w fun e w1 => ∃ v, e = .returned v ∧ R v w1 := fnP_calls callable Tryz.func83 (revetmentref06_sums_eq p0 l0 c0 w R ▸ h)

/-- (*revetment/gf.tables).ready -/
def gf_tables_ready (p0 : Option Addr) (w : World) (R : Value → World → Prop) : Prop :=
  ∃ a4 : Addr, p0 = some a4 ∧
  Calls Tryz.prog 99 #[.pointer (some a4), .func (.func 100) #[.pointer p0] #[]] w fun e w1 => e = .returned (.tuple #[]) ∧
  R (.pointer p0) w1
theorem gf_tables_ready_eq (p0 : Option Addr) (w : World) (R : Value → World → Prop) : gf_tables_ready p0 w R = fnP Tryz.prog Tryz.f84 .o [.pointer p0] w R := by kernel_rfl
theorem gf_tables_ready_calls {p0 : Option Addr} {w : World} {R : Value → World → Prop} (h : gf_tables_ready p0 w R) : Calls Tryz.prog 84 #[.pointer p0] w fun e w1 => ∃ v, e = .returned v ∧ R v w1 := fnP_calls callable Tryz.func84 (gf_tables_ready_eq p0 w R ▸ h)

/-- (*revetment/gf.tables).power -/
def gf_tables_power (p0 : Option Addr) (n1 : Int) (w : World) (R : Value → World → Prop) : Prop :=
  ∃ a10 : Addr, p0 = some a10 ∧
  (0 : Int) ≤ (Int.tmod (IntKind.i64.wrap ((Int.tmod n1 255) + 255)) 255) ∧ (Int.tmod (IntKind.i64.wrap ((Int.tmod n1 255) + 255)) 255) < (510 : Int) ∧
  ∃ n13 : Int, w.cell? (Addr.add (a10.add 4) ((Int.tmod (IntKind.i64.wrap ((Int.tmod n1 255) + 255)) 255).toNat * 1)) = some (.int .u8 n13) ∧
  R (.int .u8 n13) w
theorem gf_tables_power_eq (p0 : Option Addr) (n1 : Int) (w : World) (R : Value → World → Prop) : gf_tables_power p0 n1 w R = fnP Tryz.prog Tryz.f93 .o [.pointer p0, .int .i64 n1] w R := by kernel_rfl
theorem gf_tables_power_calls {p0 : Option Addr} {n1 : Int} {w : World} {R : Value → World → Prop} (h : gf_tables_power p0 n1 w R) : Calls Tryz.prog 93 #[.pointer p0, .int .i64 n1] w fun e w1 => ∃ v, e = .returned v ∧ R v w1 := fnP_calls callable Tryz.func93 (gf_tables_power_eq p0 n1 w R ▸ h)

/-- (*revetment/gf.tables).make -/
def gf_tables_make (p0 : Option Addr) (w : World) (R : Value → World → Prop) : Prop :=
  ∃ a5 : Addr, p0 = some a5 ∧
  Calls Tryz.prog 120 #[.pointer (some (a5.add 3)), .int .i32 1] w fun e w1 => ∃ n7 : Int, e = .returned (.int .i32 n7) ∧
  LoopP (fun I => I [.int .i64 1, .int .i64 0] w1) fun K vs w2 => ∃ n2 : Int, ∃ n8 : Int, vs = [.int .i64 n2, .int .i64 n8] ∧
  ((decide (n8 < 255)) = true →
  ∃ D : World → Prop, D w2.drew ∧
  ∃ a20 : Addr, p0 = some a20 ∧
  (0 : Int) ≤ n8 ∧ n8 < (510 : Int) ∧
  St (Addr.add (a20.add 4) (n8.toNat * 1)) (.int .u8 (IntKind.u8.wrap n2)) w2.drew fun w3 =>
  D w3 ∧
  ∃ a23 : Addr, p0 = some a23 ∧
  (0 : Int) ≤ (IntKind.i64.wrap (n8 + 255)) ∧ (IntKind.i64.wrap (n8 + 255)) < (510 : Int) ∧
  St (Addr.add (a23.add 4) ((IntKind.i64.wrap (n8 + 255)).toNat * 1)) (.int .u8 (IntKind.u8.wrap n2)) w3 fun w4 =>
  ∃ a29 : Addr, p0 = some a29 ∧
  (0 : Int) ≤ n2 ∧ n2 < (256 : Int) ∧
  St (Addr.add (a29.add 514) (n2.toNat * 1)) (.int .i64 n8) w4 fun w5 =>
  ((decide ((IntKind.i64.wrap (n2 * 2 ^ 1)) > 255)) = true →
  K [.int .i64 (bits2 .xor .i64 (IntKind.i64.wrap (n2 * 2 ^ 1)) 285), .int .i64 (IntKind.i64.wrap (n8 + 1))] w5) ∧
  ((decide ((IntKind.i64.wrap (n2 * 2 ^ 1)) > 255)) = false →
  K [.int .i64 (IntKind.i64.wrap (n2 * 2 ^ 1)), .int .i64 (IntKind.i64.wrap (n8 + 1))] w5)) ∧
  ((decide (n8 < 255)) = false →
  R (.tuple #[]) w2)
theorem gf_tables_make_eq (p0 : Option Addr) (w : World) (R : Value → World → Prop) : gf_tables_make p0 w R = fnP Tryz.prog Tryz.f100 (.s .o (.s .o (.s .o (.b (.l [(2, .one (.int .i64)), (8, .one (.int .i64))] .o))))) [.pointer p0] w R := by kernel_rfl
theorem gf_tables_make_calls {p0 : Option Addr} {w : World} {R : Value → World → Prop} (h : gf_tables_make p0 w R) : Calls Tryz.prog 100 #[.pointer p0] w fun e w1 => ∃ v, e = .returned v ∧ R v w1 := fnP_calls callable Tryz.func100 (gf_tables_make_eq p0 w R ▸ h)

/-- cmp.Less[int] -/
def cmp_Less_int (n0 : Int) (n1 : Int) (w : World) (R : Value → World → Prop) : Prop :=
  Calls Tryz.prog 126 #[.int .i64 n0] w fun e w1 => ∃ b6 : Bool, e = .returned (.bool b6) ∧
  (b6 = true →
  Calls Tryz.prog 126 #[.int .i64 n1] w1 fun e_1 w2 => ∃ b9 : Bool, e_1 = .returned (.bool b9) ∧
  ((!b9) = true →
  R (.bool true) w2) ∧
  ((!b9) = false →
  R (.bool (decide (n0 < n1))) w2)) ∧
  (b6 = false →
  R (.bool (decide (n0 < n1))) w1)
theorem cmp_Less_int_eq (n0 : Int) (n1 : Int) (w : World) (R : Value → World → Prop) : cmp_Less_int n0 n1 w R = fnP Tryz.prog Tryz.f107 .o [.int .i64 n0, .int .i64 n1] w R := by kernel_rfl
theorem cmp_Less_int_calls {n0 : Int} {n1 : Int} {w : World} {R : Value → World → Prop} (h : cmp_Less_int n0 n1 w R) : Calls Tryz.prog 107 #[.int .i64 n0, .int .i64 n1] w fun e w1 => ∃ v, e = .returned v ∧ R v w1 := fnP_calls callable Tryz.func107 (cmp_Less_int_eq n0 n1 w R ▸ h)

/-- cmp.isNaN[int] -/
def cmp_isNaN_int (n0 : Int) (w : World) (R : Value → World → Prop) : Prop :=
  R (.bool (n0 != n0)) w
theorem cmp_isNaN_int_eq (n0 : Int) (w : World) (R : Value → World → Prop) : cmp_isNaN_int n0 w R = fnP Tryz.prog Tryz.f126 .o [.int .i64 n0] w R := by kernel_rfl
theorem cmp_isNaN_int_calls {n0 : Int} {w : World} {R : Value → World → Prop} (h : cmp_isNaN_int n0 w R) : Calls Tryz.prog 126 #[.int .i64 n0] w fun e w1 => ∃ v, e = .returned v ∧ R v w1 := fnP_calls callable Tryz.func126 (cmp_isNaN_int_eq n0 w R ▸ h)

/-- strings.Trim -/
def strings_Trim (s0 : ByteArray) (s1 : ByteArray) (w : World) (R : Value → World → Prop) : Prop :=
  ((s0.toList == (ByteArray.mk #[]).toList) = true →
  R (.string s0) w) ∧
  ((s0.toList == (ByteArray.mk #[]).toList) = false →
  ((s1.toList == (ByteArray.mk #[]).toList) = true →
  R (.string s0) w) ∧
  ((s1.toList == (ByteArray.mk #[]).toList) = false →
  Join (fun vs w1 => vs = [] ∧
  Calls Tryz.prog 78 #[.string s1] w1 fun e w2 => ∃ z31_0 : Array Value, z31_0.size = 256 ∧ ∃ b31_1 : Bool, e = .returned (.tuple #[.agg z31_0, .bool b31_1]) ∧
  Alloc ((zc Tryz.prog 102).getD #[]) 102 w2 fun k5 w3 =>
  ∃ w4, (Instr.storeAt 102 (.pointer (some ⟨k5, 0, none⟩)) (.agg z31_0)).run Tryz.prog w3 = .ok () w4 ∧
  (b31_1 = true →
  Calls Tryz.prog 80 #[.string s0, .pointer (some ⟨k5, 0, none⟩)] w4 fun e_1 w5 => ∃ s36 : ByteArray, e_1 = .returned (.string s36) ∧
  Calls Tryz.prog 79 #[.string s36, .pointer (some ⟨k5, 0, none⟩)] w5 fun e_2 w6 => ∃ s37 : ByteArray, e_2 = .returned (.string s37) ∧
  R (.string s37) w6) ∧
  (b31_1 = false →
  Calls Tryz.prog 82 #[.string s0, .string s1] w4 fun e_3 w7 => ∃ s40 : ByteArray, e_3 = .returned (.string s40) ∧
  Calls Tryz.prog 81 #[.string s40, .string s1] w7 fun e_4 w8 => ∃ s42 : ByteArray, e_4 = .returned (.string s42) ∧
  R (.string s42) w8)) fun J =>
  (((s1.size : Int) == 1) = true →
  ∃ n19 : Int, ∃ w9, (Instr.index 9 (.string s1) (.int .i64 0)).run Tryz.prog w = .ok (.int .u8 n19) w9 ∧
  ((decide (n19 < 128)) = true →
  ∃ D : World → Prop, D w9.drew ∧
  ∃ n24 : Int, (∀ w, D w → (Instr.index 9 (.string s1) (.int .i64 0)).run Tryz.prog w = .ok (.int .u8 n24) w) ∧
  Calls Tryz.prog 77 #[.string s0, .int .u8 n24] w9.drew fun e_5 w10 => ∃ s25 : ByteArray, e_5 = .returned (.string s25) ∧
  D w10 ∧
  ∃ n27 : Int, (∀ w, D w → (Instr.index 9 (.string s1) (.int .i64 0)).run Tryz.prog w = .ok (.int .u8 n27) w) ∧
  Calls Tryz.prog 76 #[.string s25, .int .u8 n27] w10 fun e_6 w11 => ∃ s28 : ByteArray, e_6 = .returned (.string s28) ∧
  D w11 ∧
  R (.string s28) w11) ∧
  ((decide (n19 < 128)) = false →
  J [] w9)) ∧
  (((s1.size : Int) == 1) = false →
  J [] w)))
theorem strings_Trim_eq (s0 : ByteArray) (s1 : ByteArray) (w : World) (R : Value → World → Prop) : strings_Trim s0 s1 w R = fnP Tryz.prog Tryz.f48 (.s .o (.s .o (.j [] .o .o))) [.string s0, .string s1] w R := by kernel_rfl
theorem strings_Trim_calls {s0 : ByteArray} {s1 : ByteArray} {w : World} {R : Value → World → Prop} (h : strings_Trim s0 s1 w R) : Calls Tryz.prog 48 #[.string s0, .string s1] w fun e w1 => ∃ v, e = .returned v ∧ R v w1 := fnP_calls callable Tryz.func48 (strings_Trim_eq s0 s1 w R ▸ h)

/-- strings.trimLeftByte -/
def strings_trimLeftByte (s0 : ByteArray) (n1 : Int) (w : World) (R : Value → World → Prop) : Prop :=
  LoopP (fun I => I [.string s0] w) fun K vs w1 => ∃ s0_1 : ByteArray, vs = [.string s0_1] ∧
  ((decide ((s0_1.size : Int) > 0)) = true →
  ∃ n10 : Int, ∃ w2, (Instr.index 9 (.string s0_1) (.int .i64 0)).run Tryz.prog w1 = .ok (.int .u8 n10) w2 ∧
  ((n10 == n1) = true →
  ∃ s15 : ByteArray, ∃ w3, (Instr.sliceAt 9 (.string s0_1) (some (.int .i64 1)) none none).run Tryz.prog w2 = .ok (.string s15) w3 ∧
  K [.string s15] w3) ∧
  ((n10 == n1) = false →
  R (.string s0_1) w2)) ∧
  ((decide ((s0_1.size : Int) > 0)) = false →
  R (.string s0_1) w1)
theorem strings_trimLeftByte_eq (s0 : ByteArray) (n1 : Int) (w : World) (R : Value → World → Prop) : strings_trimLeftByte s0 n1 w R = fnP Tryz.prog Tryz.f76 (.s .o (.s (.b (.l [(0, .one .str)] .o)) .o)) [.string s0, .int .u8 n1] w R := by kernel_rfl
theorem strings_trimLeftByte_calls {s0 : ByteArray} {n1 : Int} {w : World} {R : Value → World → Prop} (h : strings_trimLeftByte s0 n1 w R) : Calls Tryz.prog 76 #[.string s0, .int .u8 n1] w fun e w1 => ∃ v, e = .returned v ∧ R v w1 := fnP_calls callable Tryz.func76 (strings_trimLeftByte_eq s0 n1 w R ▸ h)

/-- strings.trimRightByte -/
def strings_trimRightByte (s0 : ByteArray) (n1 : Int) (w : World) (R : Value → World → Prop) : Prop :=
  LoopP (fun I => I [.string s0] w) fun K vs w1 => ∃ s0_1 : ByteArray, vs = [.string s0_1] ∧
  ((decide ((s0_1.size : Int) > 0)) = true →
  ∃ n13 : Int, ∃ w2, (Instr.index 9 (.string s0_1) (.int .i64 (IntKind.i64.wrap ((s0_1.size : Int) - 1)))).run Tryz.prog w1 = .ok (.int .u8 n13) w2 ∧
  ((n13 == n1) = true →
  ∃ s21 : ByteArray, ∃ w3, (Instr.sliceAt 9 (.string s0_1) none (some (.int .i64 (IntKind.i64.wrap ((s0_1.size : Int) - 1)))) none).run Tryz.prog w2 = .ok (.string s21) w3 ∧
  K [.string s21] w3) ∧
  ((n13 == n1) = false →
  R (.string s0_1) w2)) ∧
  ((decide ((s0_1.size : Int) > 0)) = false →
  R (.string s0_1) w1)
theorem strings_trimRightByte_eq (s0 : ByteArray) (n1 : Int) (w : World) (R : Value → World → Prop) : strings_trimRightByte s0 n1 w R = fnP Tryz.prog Tryz.f77 (.s .o (.s (.b (.l [(0, .one .str)] .o)) .o)) [.string s0, .int .u8 n1] w R := by kernel_rfl
theorem strings_trimRightByte_calls {s0 : ByteArray} {n1 : Int} {w : World} {R : Value → World → Prop} (h : strings_trimRightByte s0 n1 w R) : Calls Tryz.prog 77 #[.string s0, .int .u8 n1] w fun e w1 => ∃ v, e = .returned v ∧ R v w1 := fnP_calls callable Tryz.func77 (strings_trimRightByte_eq s0 n1 w R ▸ h)

/-- slices.Sorted[int] -/
def slices_Sorted_int (v0 : Value) (w : World) (R : Value → World → Prop) : Prop :=
  Calls Tryz.prog 64 #[v0] w fun e w1 => ∃ (p5 : Option Addr) (l5 c5 : Nat), e = .returned (.slice p5 l5 c5) ∧
  Calls Tryz.prog 65 #[.slice p5 l5 c5] w1 fun e_1 w2 => e_1 = .returned (.tuple #[]) ∧
  R (.slice p5 l5 c5) w2
theorem slices_Sorted_int_eq (v0 : Value) (w : World) (R : Value → World → Prop) : slices_Sorted_int v0 w R = fnP Tryz.prog Tryz.f39 .o [v0] w R := by kernel_rfl
theorem slices_Sorted_int_calls {v0 : Value} {w : World} {R : Value → World → Prop} (h : slices_Sorted_int v0 w R) : Calls Tryz.prog 39 #[v0] w fun e w1 => ∃ v, e = .returned v ∧ R v w1 := fnP_calls callable Tryz.func39 (slices_Sorted_int_eq v0 w R ▸ h)

/-- slices.Values[[]int,int] -/
def slices_Values_int_int (p0 : Option Addr) (l0 c0 : Nat) (w : World) (R : Value → World → Prop) : Prop :=
  Alloc #[.slice p0 l0 c0] 44 w fun k1 w1 =>
  R (.func (.func 66) #[] #[.pointer (some ⟨k1, 0, none⟩)]) w1
theorem slices_Values_int_int_eq (p0 : Option Addr) (l0 c0 : Nat) (w : World) (R : Value → World → Prop) : slices_Values_int_int p0 l0 c0 w R = fnP Tryz.prog Tryz.f40 .o [.slice p0 l0 c0] w R := by kernel_rfl
theorem slices_Values_int_int_calls {p0 : Option Addr} {l0 c0 : Nat} {w : World} {R : Value → World → Prop} (h : slices_Values_int_int p0 l0 c0 w R) : Calls Tryz.prog 40 #[.slice p0 l0 c0] w fun e w1 => ∃ v, e = .returned v ∧ R v w1 := fnP_calls callable Tryz.func40 (slices_Values_int_int_eq p0 l0 c0 w R ▸ h)

/-- slices.Clone[[]string,string] -/
def slices_Clone_string_string (p0 : Option Addr) (l0 c0 : Nat) (w : World) (R : Value → World → Prop) : Prop :=
  ((Option.isNone p0) = true →
  R (.slice none 0 0) w) ∧
  ((Option.isNone p0) = false →
  Alloc #[] 9 w fun k5 w1 =>
  ∃ (p7 : Option Addr) (l7 c7 : Nat), ∃ w2, (builtin .append #[22, 22] 22 #[false, false] #[.slice (some ⟨k5, 0, none⟩) 0 0, .slice p0 l0 c0]).run Tryz.prog w1 = .ok (.value (.slice p7 l7 c7)) w2 ∧
  R (.slice p7 l7 c7) w2)
theorem slices_Clone_string_string_eq (p0 : Option Addr) (l0 c0 : Nat) (w : World) (R : Value → World → Prop) : slices_Clone_string_string p0 l0 c0 w R = fnP Tryz.prog Tryz.f20 .o [.slice p0 l0 c0] w R := by kernel_rfl
theorem slices_Clone_string_string_calls {p0 : Option Addr} {l0 c0 : Nat} {w : World} {R : Value → World → Prop} (h : slices_Clone_string_string p0 l0 c0 w R) : Calls Tryz.prog 20 #[.slice p0 l0 c0] w fun e w1 => ∃ v, e = .returned v ∧ R v w1 := fnP_calls callable Tryz.func20 (slices_Clone_string_string_eq p0 l0 c0 w R ▸ h)

/-- slices.Contains[[]int,int] -/
def slices_Contains_int_int (p0 : Option Addr) (l0 c0 : Nat) (n1 : Int) (w : World) (R : Value → World → Prop) : Prop :=
  Calls Tryz.prog 67 #[.slice p0 l0 c0, .int .i64 n1] w fun e w1 => ∃ n7 : Int, e = .returned (.int .i64 n7) ∧
  R (.bool (decide (n7 ≥ 0))) w1
theorem slices_Contains_int_int_eq (p0 : Option Addr) (l0 c0 : Nat) (n1 : Int) (w : World) (R : Value → World → Prop) : slices_Contains_int_int p0 l0 c0 n1 w R = fnP Tryz.prog Tryz.f41 .o [.slice p0 l0 c0, .int .i64 n1] w R := by kernel_rfl
theorem slices_Contains_int_int_calls {p0 : Option Addr} {l0 c0 : Nat} {n1 : Int} {w : World} {R : Value → World → Prop} (h : slices_Contains_int_int p0 l0 c0 n1 w R) : Calls Tryz.prog 41 #[.slice p0 l0 c0, .int .i64 n1] w fun e w1 => ∃ v, e = .returned v ∧ R v w1 := fnP_calls callable Tryz.func41 (slices_Contains_int_int_eq p0 l0 c0 n1 w R ▸ h)

/-- slices.Collect[int] -/
def slices_Collect_int (v0 : Value) (w : World) (R : Value → World → Prop) : Prop :=
  Calls Tryz.prog 85 #[.slice none 0 0, v0] w fun e w1 => ∃ (p4 : Option Addr) (l4 c4 : Nat), e = .returned (.slice p4 l4 c4) ∧
  R (.slice p4 l4 c4) w1
theorem slices_Collect_int_eq (v0 : Value) (w : World) (R : Value → World → Prop) : slices_Collect_int v0 w R = fnP Tryz.prog Tryz.f64 .o [v0] w R := by kernel_rfl
theorem slices_Collect_int_calls {v0 : Value} {w : World} {R : Value → World → Prop} (h : slices_Collect_int v0 w R) : Calls Tryz.prog 64 #[v0] w fun e w1 => ∃ v, e = .returned v ∧ R v w1 := fnP_calls callable Tryz.func64 (slices_Collect_int_eq v0 w R ▸ h)

/-- slices.Values[[]int,int]$1 -/
def slices_Values_int_int_1 (v0 : Value) (k1 : Addr) (w : World) (R : Value → World → Prop) : Prop :=
  ∃ (p5 : Option Addr) (l5 c5 : Nat), w.cell? k1 = some (.slice p5 l5 c5) ∧
  LoopP (fun I => I [.int .i64 0] w) fun K vs w1 => ∃ n7 : Int, vs = [.int .i64 n7] ∧
  ((decide (n7 < (l5 : Int))) = true →
  ∃ a9 : Addr, p5 = some a9 ∧ (0 : Int) ≤ n7 ∧ n7 < (l5 : Int) ∧
  ∃ n10 : Int, w1.cell? (Addr.add a9 (n7.toNat * 1)) = some (.int .i64 n10) ∧
  CallF Tryz.prog v0 [.int .i64 n10] w1 fun e w2 => ∃ b13 : Bool, e = .returned (.bool b13) ∧
  ((!b13) = true →
  R (.tuple #[]) w2) ∧
  ((!b13) = false →
  K [.int .i64 (IntKind.i64.wrap (n7 + 1))] w2)) ∧
  ((decide (n7 < (l5 : Int))) = false →
  R (.tuple #[]) w1)
theorem slices_Values_int_int_1_eq (v0 : Value) (k1 : Addr) (w : World) (R : Value → World → Prop) : slices_Values_int_int_1 v0 k1 w R = fnP Tryz.prog Tryz.f66 (.s .o (.b (.l [(7, .one (.int .i64))] .o))) [v0, .pointer (some k1)] w R := by kernel_rfl
theorem slices_Values_int_int_1_calls {v0 : Value} {k1 : Addr} {w : World} {R : Value → World → Prop} (h : slices_Values_int_int_1 v0 k1 w R) : Calls Tryz.prog 66 #[v0, .pointer (some k1)] w fun e w1 => ∃ v, e = .returned v ∧ R v w1 := fnP_calls callable Tryz.func66 (slices_Values_int_int_1_eq v0 k1 w R ▸ h)

/-- slices.Index[[]int,int] -/
def slices_Index_int_int (p0 : Option Addr) (l0 c0 : Nat) (n1 : Int) (w : World) (R : Value → World → Prop) : Prop :=
  LoopP (fun I => I [.int .i64 0] w) fun K vs w1 => ∃ n8 : Int, vs = [.int .i64 n8] ∧
  ((decide (n8 < (l0 : Int))) = true →
  ∃ a14 : Addr, p0 = some a14 ∧ (0 : Int) ≤ n8 ∧ n8 < (l0 : Int) ∧
  ∃ n15 : Int, w1.cell? (Addr.add a14 (n8.toNat * 1)) = some (.int .i64 n15) ∧
  ((n1 == n15) = true →
  R (.int .i64 n8) w1) ∧
  ((n1 == n15) = false →
  K [.int .i64 (IntKind.i64.wrap (n8 + 1))] w1)) ∧
  ((decide (n8 < (l0 : Int))) = false →
  R (.int .i64 (-1)) w1)
theorem slices_Index_int_int_eq (p0 : Option Addr) (l0 c0 : Nat) (n1 : Int) (w : World) (R : Value → World → Prop) : slices_Index_int_int p0 l0 c0 n1 w R = fnP Tryz.prog Tryz.f67 (.s .o (.s (.s .o (.b (.l [(8, .one (.int .i64))] .o))) .o)) [.slice p0 l0 c0, .int .i64 n1] w R := by kernel_rfl
theorem slices_Index_int_int_calls {p0 : Option Addr} {l0 c0 : Nat} {n1 : Int} {w : World} {R : Value → World → Prop} (h : slices_Index_int_int p0 l0 c0 n1 w R) : Calls Tryz.prog 67 #[.slice p0 l0 c0, .int .i64 n1] w fun e w1 => ∃ v, e = .returned v ∧ R v w1 := fnP_calls callable Tryz.func67 (slices_Index_int_int_eq p0 l0 c0 n1 w R ▸ h)

/-- slices.AppendSeq[[]int,int] -/
def slices_AppendSeq_int_int (p0 : Option Addr) (l0 c0 : Nat) (v1 : Value) (w : World) (R : Value → World → Prop) : Prop :=
  Alloc #[.slice p0 l0 c0] 44 w fun k2 w1 =>
  RangeP Tryz.prog v1 (fun ob l args W Φ => ∃ n7 : Int, args = [.int .i64 n7] ∧
  RoundP ob l Φ (fun K X R w2 =>
  ∃ (p8 : Option Addr) (l8 c8 : Nat), w2.cell? ⟨k2, 0, none⟩ = some (.slice p8 l8 c8) ∧
  Alloc #[.int .i64 n7] 3 w2 fun k10 w3 =>
  ∃ (p11 : Option Addr) (l11 c11 : Nat), ∃ w4, (builtin .append #[44, 44] 44 #[false, false] #[.slice p8 l8 c8, .slice (some ⟨k10, 0, none⟩) 1 1]).run Tryz.prog w3 = .ok (.value (.slice p11 l11 c11)) w4 ∧
  St ⟨k2, 0, none⟩ (.slice p11 l11 c11) w4 fun w5 =>
  K w5) W) []
  (fun d w6 =>
  ∃ (p12 : Option Addr) (l12 c12 : Nat), w6.cell? ⟨k2, 0, none⟩ = some (.slice p12 l12 c12) ∧
  w6.heap[d]? = some (.deferred (some [])) ∧
  R (.slice p12 l12 c12) (w6.putObj d (.deferred none)))
  (fun d_1 w7 =>
  w7.heap[d_1]? = some (.deferred (some [])) ∧
  R (.slice none 0 0) (w7.putObj d_1 (.deferred none))) w1
theorem slices_AppendSeq_int_int_eq (p0 : Option Addr) (l0 c0 : Nat) (v1 : Value) (w : World) (R : Value → World → Prop) : slices_AppendSeq_int_int p0 l0 c0 v1 w R = fnP Tryz.prog Tryz.f85 (.s .o (.s (.s .o (.b (.rf [(7, .one (.int .i64))] .o))) .o)) [.slice p0 l0 c0, v1] w R := by kernel_rfl
theorem slices_AppendSeq_int_int_calls {p0 : Option Addr} {l0 c0 : Nat} {v1 : Value} {w : World} {R : Value → World → Prop} (h : slices_AppendSeq_int_int p0 l0 c0 v1 w R) : Calls Tryz.prog 85 #[.slice p0 l0 c0, v1] w fun e w1 => ∃ v, e = .returned v ∧ R v w1 := fnP_calls callable Tryz.func85 (slices_AppendSeq_int_int_eq p0 l0 c0 v1 w R ▸ h)

/-- slices.insertionSortOrdered[int] -/
def slices_insertionSortOrdered_int (p0 : Option Addr) (l0 c0 : Nat) (n1 : Int) (n2 : Int) (w : World) (R : Value → World → Prop) : Prop :=
  LoopP (fun I => I [.int .i64 (IntKind.i64.wrap (n1 + 1))] w) fun K vs w1 => ∃ n6 : Int, vs = [.int .i64 n6] ∧
  ((decide (n6 < n2)) = true →
  LoopP (fun I_1 => I_1 [.int .i64 n6] w1) fun K_1 vs_1 w2 => ∃ n7 : Int, vs_1 = [.int .i64 n7] ∧
  ∃ D : World → Prop, D w2.drew ∧
  ((decide (n7 > n1)) = true →
  ∃ a22 : Addr, p0 = some a22 ∧ (0 : Int) ≤ n7 ∧ n7 < (l0 : Int) ∧
  ∃ n23 : Int, (∀ w, D w → w.cell? (Addr.add a22 (n7.toNat * 1)) = some (.int .i64 n23)) ∧
  ∃ a27 : Addr, p0 = some a27 ∧ (0 : Int) ≤ IntKind.i64.wrap (n7 - 1) ∧ (IntKind.i64.wrap (n7 - 1)) < (l0 : Int) ∧
  ∃ n28 : Int, (∀ w, D w → w.cell? (Addr.add a27 ((IntKind.i64.wrap (n7 - 1)).toNat * 1)) = some (.int .i64 n28)) ∧
  Calls Tryz.prog 107 #[.int .i64 n23, .int .i64 n28] w2.drew fun e w3 => ∃ b29 : Bool, e = .returned (.bool b29) ∧
  D w3 ∧
  (b29 = true →
  ∃ D_1 : World → Prop, D_1 w3.drew ∧
  ∃ a41 : Addr, p0 = some a41 ∧ (0 : Int) ≤ IntKind.i64.wrap (n7 - 1) ∧ (IntKind.i64.wrap (n7 - 1)) < (l0 : Int) ∧
  ∃ n42 : Int, (∀ w, D_1 w → w.cell? (Addr.add a41 ((IntKind.i64.wrap (n7 - 1)).toNat * 1)) = some (.int .i64 n42)) ∧
  ∃ a45 : Addr, p0 = some a45 ∧ (0 : Int) ≤ n7 ∧ n7 < (l0 : Int) ∧
  ∃ n46 : Int, (∀ w, D_1 w → w.cell? (Addr.add a45 (n7.toNat * 1)) = some (.int .i64 n46)) ∧
  ∃ a47 : Addr, p0 = some a47 ∧ (0 : Int) ≤ n7 ∧ n7 < (l0 : Int) ∧
  St (Addr.add a47 (n7.toNat * 1)) (.int .i64 n42) w3.drew fun w4 =>
  D_1 w4 ∧
  ∃ a48 : Addr, p0 = some a48 ∧ (0 : Int) ≤ IntKind.i64.wrap (n7 - 1) ∧ (IntKind.i64.wrap (n7 - 1)) < (l0 : Int) ∧
  St (Addr.add a48 ((IntKind.i64.wrap (n7 - 1)).toNat * 1)) (.int .i64 n46) w4 fun w5 =>
  K_1 [.int .i64 (IntKind.i64.wrap (n7 - 1))] w5) ∧
  (b29 = false →
  K [.int .i64 (IntKind.i64.wrap (n6 + 1))] w3)) ∧
  ((decide (n7 > n1)) = false →
  K [.int .i64 (IntKind.i64.wrap (n6 + 1))] w2.drew)) ∧
  ((decide (n6 < n2)) = false →
  R (.tuple #[]) w1)
theorem slices_insertionSortOrdered_int_eq (p0 : Option Addr) (l0 c0 : Nat) (n1 : Int) (n2 : Int) (w : World) (R : Value → World → Prop) : slices_insertionSortOrdered_int p0 l0 c0 n1 n2 w R = fnP Tryz.prog Tryz.f101 (.s .o (.b (.l [(6, .one (.int .i64))] (.s .o (.s (.b (.s .o (.b (.l [(7, .one (.int .i64))] .o)))) .o))))) [.slice p0 l0 c0, .int .i64 n1, .int .i64 n2] w R := by kernel_rfl
theorem slices_insertionSortOrdered_int_calls {p0 : Option Addr} {l0 c0 : Nat} {n1 : Int} {n2 : Int} {w : World} {R : Value → World → Prop} (h : slices_insertionSortOrdered_int p0 l0 c0 n1 n2 w R) : Calls Tryz.prog 101 #[.slice p0 l0 c0, .int .i64 n1, .int .i64 n2] w fun e w1 => ∃ v, e = .returned v ∧ R v w1 := fnP_calls callable Tryz.func101 (slices_insertionSortOrdered_int_eq p0 l0 c0 n1 n2 w R ▸ h)

end Go.Proofs.YtdfkifgkccnaiaaGreatDoor
