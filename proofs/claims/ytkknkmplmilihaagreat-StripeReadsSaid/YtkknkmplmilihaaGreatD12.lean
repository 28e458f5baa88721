import Derived.Test.YtkknkmplmilihaaGreatD2
import Derived.Test.YtkknkmplmilihaaGreatD11
namespace Go.Proofs.YtkknkmplmilihaaGreat
open Go.Sh
set_option linter.unusedVariables false
set_option maxRecDepth 100000
variable {w:World}{R:Value→World→Prop}
def revetmentref05_Good (p0:Option Addr) (l0 c0:Nat) (w:World) (R:Value→World→Prop):Prop:=
 C20 48 #[.slice p0 l0 c0] w fun s7_0 s7_1 w1=>
 Br (decide ((l0:Int)≥2)) (
 C2 49 #[.string s7_0] w1 fun b15 w2=>
 Br b15 (
 C2 49 #[.string s7_1] w2 fun b19 w3=>
 R (.bool b19) w3) (
 R (.bool false) w2)) (
 R (.bool false) w1)
theorem revetmentref05_Good_calls {p0:Option Addr}{l0 c0:Nat}(h:revetmentref05_Good p0 l0 c0 w R):Calls Tp 19 #[.slice p0 l0 c0] w (RT R):=fnE (pl:=.o) callable Tryz.func19 h (by kernel_rfl)
def revetmentref13_Format (p0:Option Addr) (w:World) (R:Value→World→Prop):Prop:=
 ∃a7:Addr,p0=some a7∧
 ∃(p9:Option Addr) (l9 c9:Nat),w.cell? a7=some (.slice p9 l9 c9)∧
 C3 94 #[.int .i64 (l9:Int)] w fun n11 w1=>
 Br (n11==0) (
 R (.int .i64 1) w1) (
 LoopP (fun I=>I [.int .i64 0] w1) fun K vs w2=>∃n3:Int,vs=[.int .i64 n3]∧
 ∃a15:Addr,p0=some a15∧
 ∃(p17:Option Addr) (l17 c17:Nat),w2.cell? a15=some (.slice p17 l17 c17)∧
 C3 94 #[.int .i64 (l17:Int)] w2 fun n19 w3=>
 Br (decide (n3<n19)) (
 C0 43 #[] w3 fun s27 w4=>
 C3 70 #[.pointer p0,.int .i64 (IntKind.i64.wrap (4+(IntKind.i64.wrap (41*n3)))),.string s27] w4 fun n28 w5=>
 Br (n28 != 0) (
 R (.int .i64 n28) w5) (
 K [.int .i64 (IntKind.i64.wrap (n3+1))] w5)) (
 C0 95 #[.int .u64 0] w3 fun s33 w6=>
 C3 70 #[.pointer p0,.int .i64 3,.string s33] w6 fun n34 w7=>
 Br (n34 != 0) (
 R (.int .i64 n34) w7) (
 C3 96 #[.pointer p0] w7 fun n39 w8=>
 R (.int .i64 n39) w8)))
theorem revetmentref13_Format_calls {p0:Option Addr}(h:revetmentref13_Format p0 w R):Calls Tp 41 #[.pointer p0] w (RT R):=fnE (pl:=(.s .o (.s .o (.s (.s .o (.b (.l [(3,.one (.int .i64))] .o))) .o)))) callable Tryz.func41 h (by kernel_rfl)
def revetmentref13_Open (p0:Option Addr) (w:World) (R:Value→World→Prop):Prop:=
 C6 97 #[.pointer p0,.int .i64 3] w fun s17_0 n17_1 w1=>
 Br (n17_1 != 0) (
 R (.tuple #[.pointer none,.slice none 0 0,.int .i64 n17_1]) w1) (
 C13 98 #[.string s17_0] w1 fun s25_0 b25_1 w2=>
 Br (!b25_1) (
 R (.tuple #[.pointer none,.slice none 0 0,.int .i64 200]) w2) (
 ∃a32:Addr,p0=some a32∧
 ∃(p34:Option Addr) (l34 c34:Nat),w2.cell? a32=some (.slice p34 l34 c34)∧
 C3 94 #[.int .i64 (l34:Int)] w2 fun n36 w3=>
 Br (n36==0) (
 R (.tuple #[.pointer none,.slice none 0 0,.int .i64 200]) w3) (
 ∃s41:ByteArray,∃w4,(Instr.sliceAt 9 (.string s25_0) (some (.int .i64 4)) (some (.int .i64 12)) none).run Tp w3=.ok (.string s41) w4∧
 Alloc #[.int .i64 8] 3 w4 fun k42 w5=>
 C9 99 #[.string s41,.slice (some ⟨k42,0,none⟩) 1 1] w5 fun p43_0 l43_0 c43_0 n43_1 w6=>
 ∃a48:Addr,p43_0=some a48∧(0:Int)≤0∧0<(l43_0:Int)∧
 ∃n49:Int,w6.cell? a48=some (.int .u64 n49)∧
 C0 95 #[.int .u64 n49] w6 fun s50 w7=>
 Br (!(s17_0.toList==s50.toList)) (
 R (.tuple #[.pointer none,.slice none 0 0,.int .i64 200]) w7) (
 ∃D:World→Prop,D w7.drew∧
 ∃a54:Addr,p43_0=some a54∧(0:Int)≤0∧0<(l43_0:Int)∧
 ∃n55:Int,(∀w,D w→w.cell? a54=some (.int .u64 n55))∧
 ∃a57:Addr,p43_0=some a57∧(0:Int)≤0∧0<(l43_0:Int)∧
 ∃n58:Int,(∀w,D w→w.cell? a57=some (.int .u64 n58))∧
 Alloc #[.pointer p0,.int .u64 n55,.int .u64 (IntKind.u64.wrap (n58+1))] 167 w7.drew fun k61 w8=>
 D w8∧
 Alloc #[] 79 w8 fun k62 w9=>
 LoopP (fun I=>I [.slice (some ⟨k62,0,none⟩) 0 0] w9) fun K vs w10=>∃(p12:Option Addr) (l12 c12:Nat),vs=[.slice p12 l12 c12]∧
 ∃a66:Addr,p0=some a66∧
 ∃(p68:Option Addr) (l68 c68:Nat),w10.cell? a66=some (.slice p68 l68 c68)∧
 C3 94 #[.int .i64 (l68:Int)] w10 fun n70 w11=>
 Br (decide ((l12:Int)<n70)) (
 ∃a75:Addr,(some ⟨k61,0,none⟩)=some a75∧
 ∃n77:Int,w11.cell? (a75.add 2)=some (.int .u64 n77)∧
 C14 100 #[.pointer p0,.int .u64 n77] w11 fun n78_0_0 n78_0_1 p78_0_2 l78_0_2 c78_0_2 b78_1 w12=>
 Alloc #[.int .u64 0,.int .i64 0,.slice none 0 0] 79 w12 fun k13 w13=>
 St3 k13 (.int .u64 n78_0_0) (.int .i64 n78_0_1) (.slice p78_0_2 l78_0_2 c78_0_2) w13 fun w16=>
 Br (!b78_1) (
 R (.tuple #[.pointer (some ⟨k61,0,none⟩),.slice p12 l12 c12,.int .i64 0]) w16) (
 Rduis w16 k13 fun n86_0 n86_1 p86_2 l86_2 c86_2=>
 Alloc #[.int .u64 n86_0,.int .i64 n86_1,.slice p86_2 l86_2 c86_2] 79 w16 fun k87 w17=>
 ∃(p88:Option Addr) (l88 c88:Nat),∃w18,(builtin .append #[73,73] 73 #[false,false] #[.slice p12 l12 c12,.slice (some ⟨k87,0,none⟩) 1 1]).run Tp w17=.ok (.value (.slice p88 l88 c88)) w18∧
 ∃a91:Addr,(some ⟨k61,0,none⟩)=some a91∧
 ∃n93:Int,w18.cell? (a91.add 2)=some (.int .u64 n93)∧
 ∃a95:Addr,(some ⟨k61,0,none⟩)=some a95∧
 St (a95.add 2) (.int .u64 (IntKind.u64.wrap (n93+1))) w18 fun w19=>
 K [.slice p88 l88 c88] w19)) (
 R (.tuple #[.pointer (some ⟨k61,0,none⟩),.slice p12 l12 c12,.int .i64 0]) w11)))))
theorem revetmentref13_Open_calls {p0:Option Addr}(h:revetmentref13_Open p0 w R):Calls Tp 42 #[.pointer p0] w (RT R):=fnE (pl:=(.s .o (.s .o (.s .o (.s .o (.s .o (.s .o (.s .o (.s .o (.s .o (.s (.b (.l [(12,.one .slice)] .o)) .o))))))))))) callable Tryz.func42 h (by kernel_rfl)
def revetmentref05_Sum (p0:Option Addr) (l0 c0:Nat) (w:World) (R:Value→World→Prop):Prop:=
 Br (decide ((IntKind.i64.wrap ((l0:Int)-2))<0)) (
 R (.tuple #[.string (ByteArray.mk #[]),.string (ByteArray.mk #[])]) w) (
 ∃D:World→Prop,D w.drew∧
 ∃(p12:Option Addr) (l12 c12:Nat),(∀w,D w→(Instr.sliceAt 54 (.slice p0 l0 c0) none (some (.int .i64 (IntKind.i64.wrap ((l0:Int)-2)))) none).run Tp w=.ok (.slice p12 l12 c12) w)∧
 C0 114 #[.slice p12 l12 c12] w.drew fun s13 w1=>
 D w1∧
 ∃a16:Addr,p0=some a16∧(0:Int)≤IntKind.i64.wrap ((l0:Int)-2)∧(IntKind.i64.wrap ((l0:Int)-2))<(l0:Int)∧
 ∃s17:ByteArray,(∀w,D w→w.cell? (Addr.add a16 ((IntKind.i64.wrap ((l0:Int)-2)).toNat*1))=some (.string s17))∧
 C0 113 #[.string s13,.string s17] w1 fun s18 w2=>
 D w2∧
 ∃(p21:Option Addr) (l21 c21:Nat),(∀w,D w→(Instr.sliceAt 54 (.slice p0 l0 c0) none (some (.int .i64 (IntKind.i64.wrap ((l0:Int)-2)))) none).run Tp w=.ok (.slice p21 l21 c21) w)∧
 C0 115 #[.slice p21 l21 c21] w2 fun s22 w3=>
 D w3∧
 ∃a26:Addr,p0=some a26∧(0:Int)≤IntKind.i64.wrap ((IntKind.i64.wrap ((l0:Int)-2))+1)∧(IntKind.i64.wrap ((IntKind.i64.wrap ((l0:Int)-2))+1))<(l0:Int)∧
 ∃s27:ByteArray,(∀w,D w→w.cell? (Addr.add a26 ((IntKind.i64.wrap ((IntKind.i64.wrap ((l0:Int)-2))+1)).toNat*1))=some (.string s27))∧
 C0 113 #[.string s22,.string s27] w3 fun s28 w4=>
 D w4∧
 R (.tuple #[.string s18,.string s28]) w4)
theorem revetmentref05_Sum_calls {p0:Option Addr}{l0 c0:Nat}(h:revetmentref05_Sum p0 l0 c0 w R):Calls Tp 48 #[.slice p0 l0 c0] w (RT R):=fnE (pl:=.o) callable Tryz.func48 h (by kernel_rfl)
def revetmentref05_Zero (s0:ByteArray) (w:World) (R:Value→World→Prop):Prop:=
 LoopP (fun I=>I [.int .i64 0] w) fun K vs w1=>∃n3:Int,vs=[.int .i64 n3]∧
 Br (decide (n3<(s0.size:Int))) (
 ∃n12:Int,∃w2,(Instr.index 9 (.string s0) (.int .i64 n3)).run Tp w1=.ok (.int .u8 n12) w2∧
 Br (n12 != 0) (
 R (.bool false) w2) (
 K [.int .i64 (IntKind.i64.wrap (n3+1))] w2)) (
 R (.bool true) w1)
theorem revetmentref05_Zero_calls {s0:ByteArray}(h:revetmentref05_Zero s0 w R):Calls Tp 49 #[.string s0] w (RT R):=fnE (pl:=(.s .o (.s (.s .o (.b (.l [(3,.one (.int .i64))] .o))) .o))) callable Tryz.func49 h (by kernel_rfl)
def revetmentref13_Slots (n0:Int) (w:World) (R:Value→World→Prop):Prop:=
 Br (decide (n0<4)) (
 R (.int .i64 0) w) (
 R (.int .i64 (IntKind.i64.wrap (Int.tdiv (IntKind.i64.wrap (n0-4)) 41))) w)
theorem revetmentref13_Slots_calls {n0:Int}(h:revetmentref13_Slots n0 w R):Calls Tp 94 #[.int .i64 n0] w (RT R):=fnE (pl:=.o) callable Tryz.func94 h (by kernel_rfl)
def revetmentref13_Mark (n0:Int) (w:World) (R:Value→World→Prop):Prop:=
 Alloc #[.int .u64 n0] 70 w fun k9 w1=>
 Alloc #[.int .i64 8] 3 w1 fun k10 w2=>
 C6 165 #[.slice (some ⟨k9,0,none⟩) 1 1,.slice (some ⟨k10,0,none⟩) 1 1] w2 fun s11_0 n11_1 w3=>
 (((ByteArray.mk #[82,86,84,77]).size+s11_0.size:Nat):Int)≤9223372036854775807∧
 C13 166 #[.string ((ByteArray.mk #[82,86,84,77])++s11_0),.int .i64 64] w3 fun s17_0 b17_1 w4=>
 R (.string s17_0) w4
theorem revetmentref13_Mark_calls {n0:Int}(h:revetmentref13_Mark n0 w R):Calls Tp 95 #[.int .u64 n0] w (RT R):=fnE (pl:=.o) callable Tryz.func95 h (by kernel_rfl)
def revetmentref02_Open (s0:ByteArray) (w:World) (R:Value→World→Prop):Prop:=
 Br (decide ((s0.size:Int)<4)) (
 R (.tuple #[.string (ByteArray.mk #[]),.bool false]) w) (
 ∃s12:ByteArray,∃w1,(Instr.sliceAt 9 (.string s0) none (some (.int .i64 (IntKind.i64.wrap ((s0.size:Int)-4)))) none).run Tp w=.ok (.string s12) w1∧
 ∃D:World→Prop,D w1.drew∧
 ∃s17:ByteArray,(∀w,D w→(Instr.sliceAt 9 (.string s0) (some (.int .i64 (IntKind.i64.wrap ((s0.size:Int)-4)))) none none).run Tp w=.ok (.string s17) w)∧
 C16 170 #[.string s12] w1.drew fun n19 w2=>
 D w2∧
 C0 169 #[.int .u32 n19] w2 fun s20 w3=>
 D w3∧
 Br (!(s17.toList==s20.toList)) (
 R (.tuple #[.string (ByteArray.mk #[]),.bool false]) w3) (
 R (.tuple #[.string s12,.bool true]) w3))
theorem revetmentref02_Open_calls {s0:ByteArray}(h:revetmentref02_Open s0 w R):Calls Tp 98 #[.string s0] w (RT R):=fnE (pl:=.o) callable Tryz.func98 h (by kernel_rfl)
def revetmentref03_Decode (s0:ByteArray) (p1:Option Addr) (l1 c1:Nat) (w:World) (R:Value→World→Prop):Prop:=
 C17 171 #[.slice p1 l1 c1] w fun n15_0 n15_1 w1=>
 Br (n15_1 != 0) (
 R (.tuple #[.slice none 0 0,.int .i64 n15_1]) w1) (
 Br ((s0.size:Int) != n15_0) (
 R (.tuple #[.slice none 0 0,.int .i64 31]) w1) (
 Alloc #[] 70 w1 fun k25 w2=>
 LoopP (fun I=>I [.slice (some ⟨k25,0,none⟩) 0 0,.int .i64 0,.int .i64 0] w2) fun K vs w3=>∃(p8:Option Addr) (l8 c8:Nat),∃n9 n10:Int,vs=[.slice p8 l8 c8,.int .i64 n9,.int .i64 n10]∧
 Br (decide (n10<(l1:Int))) (
 LoopP (fun I_1=>I_1 [.int .u64 0,.int .i64 0] w3) fun K_1 vs_1 w4=>∃n11 n12:Int,vs_1=[.int .u64 n11,.int .i64 n12]∧
 ∃a35:Addr,p1=some a35∧(0:Int)≤n10∧n10<(l1:Int)∧
 ∃n36:Int,w4.cell? (Addr.add a35 (n10.toNat*1))=some (.int .i64 n36)∧
 Br (decide (n12<n36)) (
 ∃n45:Int,∃w5,(Instr.index 9 (.string s0) (.int .i64 (IntKind.i64.wrap (n9+n12)))).run Tp w4=.ok (.int .u8 n45) w5∧
 (0:Int)≤(IntKind.i64.wrap (8*n12))∧
 K_1 [.int .u64 (bits2 .or .u64 n11 (IntKind.u64.wrap ((IntKind.u64.wrap n45)*2 ^ (min (IntKind.i64.wrap (8*n12)).toNat 64)))),.int .i64 (IntKind.i64.wrap (n12+1))] w5) (
 Alloc #[.int .u64 n11] 70 w4 fun k53 w6=>
 ∃(p54:Option Addr) (l54 c54:Nat),∃w7,(builtin .append #[155,155] 155 #[false,false] #[.slice p8 l8 c8,.slice (some ⟨k53,0,none⟩) 1 1]).run Tp w6=.ok (.value (.slice p54 l54 c54)) w7∧
 ∃a58:Addr,p1=some a58∧(0:Int)≤n10∧n10<(l1:Int)∧
 ∃n59:Int,w7.cell? (Addr.add a58 (n10.toNat*1))=some (.int .i64 n59)∧
 K [.slice p54 l54 c54,.int .i64 (IntKind.i64.wrap (n9+n59)),.int .i64 (IntKind.i64.wrap (n10+1))] w7)) (
 R (.tuple #[.slice p8 l8 c8,.int .i64 0]) w3)))
theorem revetmentref03_Decode_calls {s0:ByteArray}{p1:Option Addr}{l1 c1:Nat}(h:revetmentref03_Decode s0 p1 l1 c1 w R):Calls Tp 99 #[.string s0,.slice p1 l1 c1] w (RT R):=fnE (pl:=(.s .o (.s .o (.s .o (.s .o (.s .o (.s .o (.s (.s .o (.b (.l [(8,.one .slice),(9,.one (.int .i64)),(10,.one (.int .i64))] (.s .o (.s (.b (.s .o (.s (.s .o (.b (.l [(11,.one (.int .u64)),(12,.one (.int .i64))] .o))) .o))) .o))))) .o)))))))) callable Tryz.func99 h (by kernel_rfl)
def revetmentref13_read (p0:Option Addr) (n1:Int) (w:World) (R:Value→World→Prop):Prop:=
 Alloc #[.int .u64 0,.int .i64 0,.slice none 0 0] 79 w fun k4 w1=>
 C3 172 #[.pointer p0,.int .u64 n1] w1 fun n20 w2=>
 C6 97 #[.pointer p0,.int .i64 n20] w2 fun s24_0 n24_1 w3=>
 Br (n24_1 != 0) (
 St3 k4 (.int .u64 0) (.int .i64 0) (.slice none 0 0) w3 fun w6=>
 Rduis w6 k4 fun nr4_0 nr4_1 pr4_2 lr4_2 cr4_2=>
 R (.tuple #[Aguis nr4_0 nr4_1 pr4_2 lr4_2 cr4_2,.bool false]) w6) (
 C18 173 #[.string s24_0] w3 fun n32_0_0 n32_0_1 p32_0_2 l32_0_2 c32_0_2 n32_1 n32_2 w7=>
 Alloc #[.int .u64 0,.int .i64 0,.slice none 0 0] 79 w7 fun k9 w8=>
 St3 k9 (.int .u64 n32_0_0) (.int .i64 n32_0_1) (.slice p32_0_2 l32_0_2 c32_0_2) w8 fun w11=>
 Br (n32_2 != 0) (
 St3 k4 (.int .u64 0) (.int .i64 0) (.slice none 0 0) w11 fun w14=>
 Rduis w14 k4 fun nr4_0_1 nr4_1_1 pr4_2_1 lr4_2_1 cr4_2_1=>
 R (.tuple #[Aguis nr4_0_1 nr4_1_1 pr4_2_1 lr4_2_1 cr4_2_1,.bool false]) w14) (
 ∃n40:Int,w11.cell? ⟨k9,0,none⟩=some (.int .u64 n40)∧
 Br (n40 != n1) (
 St3 k4 (.int .u64 0) (.int .i64 0) (.slice none 0 0) w11 fun w17=>
 Rduis w17 k4 fun nr4_0_2 nr4_1_2 pr4_2_2 lr4_2_2 cr4_2_2=>
 R (.tuple #[Aguis nr4_0_2 nr4_1_2 pr4_2_2 lr4_2_2 cr4_2_2,.bool false]) w17) (
 Alloc #[] 9 w11 fun k45 w18=>
 LoopP (fun I=>I [.slice (some ⟨k45,0,none⟩) 0 0,.int .i64 0] w18) fun K vs w19=>∃(p12:Option Addr) (l12 c12:Nat),∃n13:Int,vs=[.slice p12 l12 c12,.int .i64 n13]∧
 ∃(p48:Option Addr) (l48 c48:Nat),w19.cell? ⟨k9,2,none⟩=some (.slice p48 l48 c48)∧
 Br (decide (n13<(l48:Int))) (
 C6 97 #[.pointer p0,.int .i64 (IntKind.i64.wrap ((IntKind.i64.wrap (n20+1))+n13))] w19 fun s59_0 n59_1 w20=>
 Br (n59_1 != 0) (
 St3 k4 (.int .u64 0) (.int .i64 0) (.slice none 0 0) w20 fun w23=>
 Rduis w23 k4 fun nr4_0_3 nr4_1_3 pr4_2_3 lr4_2_3 cr4_2_3=>
 R (.tuple #[Aguis nr4_0_3 nr4_1_3 pr4_2_3 lr4_2_3 cr4_2_3,.bool false]) w23) (
 Alloc #[.string s59_0] 9 w20 fun k67 w24=>
 ∃(p68:Option Addr) (l68 c68:Nat),∃w25,(builtin .append #[54,54] 54 #[false,false] #[.slice p12 l12 c12,.slice (some ⟨k67,0,none⟩) 1 1]).run Tp w24=.ok (.value (.slice p68 l68 c68)) w25∧
 K [.slice p68 l68 c68,.int .i64 (IntKind.i64.wrap (n13+1))] w25)) (
 C19 174 #[.string s24_0,.slice p12 l12 c12] w19 fun n72_0_0 n72_0_1 p72_0_2 l72_0_2 c72_0_2 n72_1 w26=>
 Alloc #[.int .u64 0,.int .i64 0,.slice none 0 0] 79 w26 fun k16 w27=>
 St3 k16 (.int .u64 n72_0_0) (.int .i64 n72_0_1) (.slice p72_0_2 l72_0_2 c72_0_2) w27 fun w30=>
 Rduis w30 k16 fun n75_0 n75_1 p75_2 l75_2 c75_2=>
 St3 k4 (.int .u64 n75_0) (.int .i64 n75_1) (.slice p75_2 l75_2 c75_2) w30 fun w33=>
 Rduis w33 k4 fun nr4_0_4 nr4_1_4 pr4_2_4 lr4_2_4 cr4_2_4=>
 R (.tuple #[Aguis nr4_0_4 nr4_1_4 pr4_2_4 lr4_2_4 cr4_2_4,.bool (n72_1==0)]) w33))))
theorem revetmentref13_read_calls {p0:Option Addr}{n1:Int}(h:revetmentref13_read p0 n1 w R):Calls Tp 100 #[.pointer p0,.int .u64 n1] w (RT R):=fnE (pl:=(.s .o (.s .o (.s .o (.s .o (.s .o (.s .o (.s .o (.s (.s .o (.b (.l [(12,.one .slice),(13,.one (.int .i64))] .o))) .o))))))))) callable Tryz.func100 h (by kernel_rfl)
def revetmentref01_Xor (s0 s1:ByteArray) (w:World) (R:Value→World→Prop):Prop:=
 Alloc #[] 5 w fun k8 w1=>
 LoopP (fun I=>I [.slice (some ⟨k8,0,none⟩) 0 0,.int .i64 0] w1) fun K vs w2=>∃(p5:Option Addr) (l5 c5:Nat),∃n6:Int,vs=[.slice p5 l5 c5,.int .i64 n6]∧
 ∃n14:Int,∃w3,(builtin .max #[3,3] 3 #[false,false] #[.int .i64 (s0.size:Int),.int .i64 (s1.size:Int)]).run Tp w2=.ok (.value (.int .i64 n14)) w3∧
 Br (decide (n6<n14)) (
 Join (fun vs_1 w4=>∃n7:Int,vs_1=[.int .u8 n7]∧
 Join (fun vs_2 w5=>∃n7_1:Int,vs_2=[.int .u8 n7_1]∧
 Alloc #[.int .u8 n7_1] 5 w5 fun k36 w6=>
 ∃(p37:Option Addr) (l37 c37:Nat),∃w7,(builtin .append #[86,86] 86 #[false,false] #[.slice p5 l5 c5,.slice (some ⟨k36,0,none⟩) 1 1]).run Tp w6=.ok (.value (.slice p37 l37 c37)) w7∧
 K [.slice p37 l37 c37,.int .i64 (IntKind.i64.wrap (n6+1))] w7) fun J_1=>
 Br (decide (n6<(s1.size:Int))) (
 ∃n32:Int,∃w8,(Instr.index 9 (.string s1) (.int .i64 n6)).run Tp w4=.ok (.int .u8 n32) w8∧
 J_1 [.int .u8 (bits2 .xor .u8 n7 n32)] w8) (
 J_1 [.int .u8 n7] w4)) fun J=>
 Br (decide (n6<(s0.size:Int))) (
 ∃n24:Int,∃w9,(Instr.index 9 (.string s0) (.int .i64 n6)).run Tp w3=.ok (.int .u8 n24) w9∧
 J [.int .u8 n24] w9) (
 J [.int .u8 0] w3)) (
 ∃s39:ByteArray,∃w10,(convert 86 9 (.slice p5 l5 c5)).run Tp w3=.ok (.string s39) w10∧
 R (.string s39) w10)
theorem revetmentref01_Xor_calls {s0 s1:ByteArray}(h:revetmentref01_Xor s0 s1 w R):Calls Tp 113 #[.string s0,.string s1] w (RT R):=fnE (pl:=(.s .o (.s .o (.s (.s .o (.b (.l [(5,.one .slice),(6,.one (.int .i64))] (.s .o (.s (.b (.s .o (.j [(7,.one (.int .u8))] .o (.j [(7,.one (.int .u8))] .o .o)))) .o))))) .o)))) callable Tryz.func113 h (by kernel_rfl)
def revetmentref05_P (p0:Option Addr) (l0 c0:Nat) (w:World) (R:Value→World→Prop):Prop:=
 LoopP (fun I=>I [.string (ByteArray.mk #[]),.int .i64 0] w) fun K vs w1=>∃s3:ByteArray,∃n4:Int,vs=[.string s3,.int .i64 n4]∧
 Br (decide (n4<(l0:Int))) (
 ∃a14:Addr,p0=some a14∧(0:Int)≤n4∧n4<(l0:Int)∧
 ∃s15:ByteArray,w1.cell? (Addr.add a14 (n4.toNat*1))=some (.string s15)∧
 C0 113 #[.string s3,.string s15] w1 fun s16 w2=>
 K [.string s16,.int .i64 (IntKind.i64.wrap (n4+1))] w2) (
 R (.string s3) w1)
theorem revetmentref05_P_calls {p0:Option Addr}{l0 c0:Nat}(h:revetmentref05_P p0 l0 c0 w R):Calls Tp 114 #[.slice p0 l0 c0] w (RT R):=fnE (pl:=(.s .o (.s .o (.s (.s .o (.b (.l [(3,.one .str),(4,.one (.int .i64))] .o))) .o)))) callable Tryz.func114 h (by kernel_rfl)
def revetmentref05_Q (p0:Option Addr) (l0 c0:Nat) (w:World) (R:Value→World→Prop):Prop:=
 LoopP (fun I=>I [.string (ByteArray.mk #[]),.int .i64 0] w) fun K vs w1=>∃s3:ByteArray,∃n4:Int,vs=[.string s3,.int .i64 n4]∧
 Br (decide (n4<(l0:Int))) (
 ∃D:World→Prop,D w1.drew∧
 ∃a14:Addr,p0=some a14∧(0:Int)≤n4∧n4<(l0:Int)∧
 ∃s15:ByteArray,(∀w,D w→w.cell? (Addr.add a14 (n4.toNat*1))=some (.string s15))∧
 C21 186 #[.int .i64 n4] w1.drew fun n17 w2=>
 D w2∧
 C0 185 #[.string s15,.int .u8 n17] w2 fun s18 w3=>
 D w3∧
 C0 113 #[.string s3,.string s18] w3 fun s19 w4=>
 D w4∧
 K [.string s19,.int .i64 (IntKind.i64.wrap (n4+1))] w4) (
 R (.string s3) w1)
theorem revetmentref05_Q_calls {p0:Option Addr}{l0 c0:Nat}(h:revetmentref05_Q p0 l0 c0 w R):Calls Tp 115 #[.slice p0 l0 c0] w (RT R):=fnE (pl:=(.s .o (.s .o (.s (.s .o (.b (.l [(3,.one .str),(4,.one (.int .i64))] .o))) .o)))) callable Tryz.func115 h (by kernel_rfl)
def revetmentref03_Encode (p0:Option Addr) (l0 c0:Nat) (p1:Option Addr) (l1 c1:Nat) (w:World) (R:Value→World→Prop):Prop:=
 C17 171 #[.slice p1 l1 c1] w fun n13_0 n13_1 w1=>
 Br (n13_1 != 0) (
 R (.tuple #[.string (ByteArray.mk #[]),.int .i64 n13_1]) w1) (
 Br ((l0:Int) != (l1:Int)) (
 R (.tuple #[.string (ByteArray.mk #[]),.int .i64 1]) w1) (
 Alloc #[] 5 w1 fun k24 w2=>
 LoopP (fun I=>I [.slice (some ⟨k24,0,none⟩) 0 0,.int .i64 0] w2) fun K vs w3=>∃(p8:Option Addr) (l8 c8:Nat),∃n9:Int,vs=[.slice p8 l8 c8,.int .i64 n9]∧
 Br (decide (n9<(l0:Int))) (
 ∃D:World→Prop,D w3.drew∧
 ∃a33:Addr,p0=some a33∧(0:Int)≤n9∧n9<(l0:Int)∧
 ∃n34:Int,(∀w,D w→w.cell? (Addr.add a33 (n9.toNat*1))=some (.int .u64 n34))∧
 ∃a37:Addr,p1=some a37∧(0:Int)≤n9∧n9<(l1:Int)∧
 ∃n38:Int,(∀w,D w→w.cell? (Addr.add a37 (n9.toNat*1))=some (.int .i64 n38))∧
 C2 212 #[.int .u64 n34,.int .i64 n38] w3.drew fun b39 w4=>
 D w4∧
 Br (!b39) (
 R (.tuple #[.string (ByteArray.mk #[]),.int .i64 30]) w4) (
 LoopP (fun I_1=>I_1 [.slice p8 l8 c8,.int .i64 0] w4) fun K_1 vs_1 w5=>∃(p8_1:Option Addr) (l8_1 c8_1:Nat),∃n10:Int,vs_1=[.slice p8_1 l8_1 c8_1,.int .i64 n10]∧
 ∃a44:Addr,p1=some a44∧(0:Int)≤n9∧n9<(l1:Int)∧
 ∃n45:Int,w5.cell? (Addr.add a44 (n9.toNat*1))=some (.int .i64 n45)∧
 Br (decide (n10<n45)) (
 ∃a52:Addr,p0=some a52∧(0:Int)≤n9∧n9<(l0:Int)∧
 ∃n53:Int,w5.cell? (Addr.add a52 (n9.toNat*1))=some (.int .u64 n53)∧
 (0:Int)≤(IntKind.i64.wrap (8*n10))∧
 Alloc #[.int .u8 (IntKind.u8.wrap (Int.fdiv n53 (2 ^ (min (IntKind.i64.wrap (8*n10)).toNat 64))))] 5 w5 fun k58 w6=>
 ∃(p59:Option Addr) (l59 c59:Nat),∃w7,(builtin .append #[86,86] 86 #[false,false] #[.slice p8_1 l8_1 c8_1,.slice (some ⟨k58,0,none⟩) 1 1]).run Tp w6=.ok (.value (.slice p59 l59 c59)) w7∧
 K_1 [.slice p59 l59 c59,.int .i64 (IntKind.i64.wrap (n10+1))] w7) (
 K [.slice p8_1 l8_1 c8_1,.int .i64 (IntKind.i64.wrap (n9+1))] w5))) (
 ∃s61:ByteArray,∃w8,(convert 86 9 (.slice p8 l8 c8)).run Tp w3=.ok (.string s61) w8∧
 R (.tuple #[.string s61,.int .i64 0]) w8)))
theorem revetmentref03_Encode_calls {p0:Option Addr}{l0 c0:Nat}{p1:Option Addr}{l1 c1:Nat}(h:revetmentref03_Encode p0 l0 c0 p1 l1 c1 w R):Calls Tp 165 #[.slice p0 l0 c0,.slice p1 l1 c1] w (RT R):=fnE (pl:=(.s .o (.s .o (.s .o (.s .o (.s .o (.s (.s .o (.b (.l [(8,.one .slice),(9,.one (.int .i64))] (.s .o (.s (.b (.s .o (.s .o (.b (.l [(8,.one .slice),(10,.one (.int .i64))] .o))))) .o))))) .o))))))) callable Tryz.func165 h (by kernel_rfl)
def revetmentref02_Seal (s0:ByteArray) (n1:Int) (w:World) (R:Value→World→Prop):Prop:=
 Br (decide (n1<4)) (
 R (.tuple #[.string (ByteArray.mk #[]),.bool false]) w) (
 Br (decide (n1>4096)) (
 R (.tuple #[.string (ByteArray.mk #[]),.bool false]) w) (
 Br (decide ((s0.size:Int)>(IntKind.i64.wrap (n1-4)))) (
 R (.tuple #[.string (ByteArray.mk #[]),.bool false]) w) (
 LoopP (fun I=>I [.string s0] w) fun K vs w1=>∃s6:ByteArray,vs=[.string s6]∧
 Br (decide ((s6.size:Int)<(IntKind.i64.wrap (n1-4)))) (
 ((s6.size+(ByteArray.mk #[0]).size:Nat):Int)≤9223372036854775807∧
 K [.string (s6++(ByteArray.mk #[0]))] w1) (
 C16 170 #[.string s6] w1 fun n30 w2=>
 C0 169 #[.int .u32 n30] w2 fun s31 w3=>
 ((s6.size+s31.size:Nat):Int)≤9223372036854775807∧
 R (.tuple #[.string (s6++s31),.bool true]) w3))))
theorem revetmentref02_Seal_calls {s0:ByteArray}{n1:Int}(h:revetmentref02_Seal s0 n1 w R):Calls Tp 166 #[.string s0,.int .i64 n1] w (RT R):=fnE (pl:=(.s .o (.s .o (.s .o (.s (.b (.l [(6,.one .str)] .o)) .o))))) callable Tryz.func166 h (by kernel_rfl)
def revetmentref02_four (n0:Int) (w:World) (R:Value→World→Prop):Prop:=
 Alloc #[.int .u8 (IntKind.u8.wrap n0),.int .u8 (IntKind.u8.wrap (Int.fdiv n0 (2 ^ 8))),.int .u8 (IntKind.u8.wrap (Int.fdiv n0 (2 ^ 16))),.int .u8 (IntKind.u8.wrap (Int.fdiv n0 (2 ^ 24)))] 5 w fun k14 w1=>
 ∃s15:ByteArray,∃w2,(convert 86 9 (.slice (some ⟨k14,0,none⟩) 4 4)).run Tp w1=.ok (.string s15) w2∧
 R (.string s15) w2
theorem revetmentref02_four_calls {n0:Int}(h:revetmentref02_four n0 w R):Calls Tp 169 #[.int .u32 n0] w (RT R):=fnE (pl:=.o) callable Tryz.func169 h (by kernel_rfl)
def revetmentref02_Sum (s0:ByteArray) (w:World) (R:Value→World→Prop):Prop:=
 C16 213 #[.int .u32 0,.string s0] w fun n4 w1=>
 R (.int .u32 n4) w1
theorem revetmentref02_Sum_calls {s0:ByteArray}(h:revetmentref02_Sum s0 w R):Calls Tp 170 #[.string s0] w (RT R):=fnE (pl:=.o) callable Tryz.func170 h (by kernel_rfl)
def revetmentref03_Size (p0:Option Addr) (l0 c0:Nat) (w:World) (R:Value→World→Prop):Prop:=
 Br (decide ((l0:Int)>64)) (
 R (.tuple #[.int .i64 0,.int .i64 1]) w) (
 LoopP (fun I=>I [.int .i64 0,.int .i64 0] w) fun K vs w1=>∃n4 n5:Int,vs=[.int .i64 n4,.int .i64 n5]∧
 Br (decide (n5<(l0:Int))) (
 ∃a17:Addr,p0=some a17∧(0:Int)≤n5∧n5<(l0:Int)∧
 ∃n18:Int,w1.cell? (Addr.add a17 (n5.toNat*1))=some (.int .i64 n18)∧
 Br (decide (n18<1)) (
 R (.tuple #[.int .i64 0,.int .i64 1]) w1) (
 ∃a23:Addr,p0=some a23∧(0:Int)≤n5∧n5<(l0:Int)∧
 ∃n24:Int,w1.cell? (Addr.add a23 (n5.toNat*1))=some (.int .i64 n24)∧
 Br (decide (n24>8)) (
 R (.tuple #[.int .i64 0,.int .i64 1]) w1) (
 ∃a30:Addr,p0=some a30∧(0:Int)≤n5∧n5<(l0:Int)∧
 ∃n31:Int,w1.cell? (Addr.add a30 (n5.toNat*1))=some (.int .i64 n31)∧
 K [.int .i64 (IntKind.i64.wrap (n4+n31)),.int .i64 (IntKind.i64.wrap (n5+1))] w1))) (
 R (.tuple #[.int .i64 n4,.int .i64 0]) w1))
theorem revetmentref03_Size_calls {p0:Option Addr}{l0 c0:Nat}(h:revetmentref03_Size p0 l0 c0 w R):Calls Tp 171 #[.slice p0 l0 c0] w (RT R):=fnE (pl:=(.s .o (.s .o (.s .o (.s (.s .o (.b (.l [(4,.one (.int .i64)),(5,.one (.int .i64))] .o))) .o))))) callable Tryz.func171 h (by kernel_rfl)
def revetmentref13_first (p0:Option Addr) (n1:Int) (w:World) (R:Value→World→Prop):Prop:=
 ∃a7:Addr,p0=some a7∧
 ∃(p9:Option Addr) (l9 c9:Nat),w.cell? a7=some (.slice p9 l9 c9)∧
 C3 94 #[.int .i64 (l9:Int)] w fun n11 w1=>
 (IntKind.u64.wrap n11)≠0∧
 R (.int .i64 (IntKind.i64.wrap (4+(IntKind.i64.wrap (41*(IntKind.i64.wrap (Int.tmod n1 (IntKind.u64.wrap n11)))))))) w1
theorem revetmentref13_first_calls {p0:Option Addr}{n1:Int}(h:revetmentref13_first p0 n1 w R):Calls Tp 172 #[.pointer p0,.int .u64 n1] w (RT R):=fnE (pl:=.o) callable Tryz.func172 h (by kernel_rfl)
def revetmentref12_Head (s0:ByteArray) (w:World) (R:Value→World→Prop):Prop:=
 Alloc #[.int .u64 0,.int .i64 0,.slice none 0 0] 79 w fun k2 w1=>
 Br ((s0.size:Int) != 64) (
 St3 k2 (.int .u64 0) (.int .i64 0) (.slice none 0 0) w1 fun w4=>
 Rduis w4 k2 fun nr2_0 nr2_1 pr2_2 lr2_2 cr2_2=>
 R (.tuple #[Aguis nr2_0 nr2_1 pr2_2 lr2_2 cr2_2,.int .u32 0,.int .i64 31]) w4) (
 C13 98 #[.string s0] w1 fun s18_0 b18_1 w5=>
 Br (!b18_1) (
 St3 k2 (.int .u64 0) (.int .i64 0) (.slice none 0 0) w5 fun w8=>
 Rduis w8 k2 fun nr2_0_1 nr2_1_1 pr2_2_1 lr2_2_1 cr2_2_1=>
 R (.tuple #[Aguis nr2_0_1 nr2_1_1 pr2_2_1 lr2_2_1 cr2_2_1,.int .u32 0,.int .i64 80]) w8) (
 ∃s25:ByteArray,∃w9,(Instr.sliceAt 9 (.string s18_0) none (some (.int .i64 4)) none).run Tp w5=.ok (.string s25) w9∧
 Br (!(s25.toList==(ByteArray.mk #[82,86,84,74]).toList)) (
 St3 k2 (.int .u64 0) (.int .i64 0) (.slice none 0 0) w9 fun w12=>
 Rduis w12 k2 fun nr2_0_2 nr2_1_2 pr2_2_2 lr2_2_2 cr2_2_2=>
 R (.tuple #[Aguis nr2_0_2 nr2_1_2 pr2_2_2 lr2_2_2 cr2_2_2,.int .u32 0,.int .i64 81]) w12) (
 ∃s30:ByteArray,∃w13,(Instr.sliceAt 9 (.string s18_0) (some (.int .i64 4)) (some (.int .i64 19)) none).run Tp w9=.ok (.string s30) w13∧
 Alloc #[.int .i64 8,.int .i64 2,.int .i64 1,.int .i64 4] 3 w13 fun k31 w14=>
 C9 99 #[.string s30,.slice (some ⟨k31,0,none⟩) 4 4] w14 fun p32_0 l32_0 c32_0 n32_1 w15=>
 ∃D:World→Prop,D w15.drew∧
 ∃a36:Addr,p32_0=some a36∧(0:Int)≤0∧0<(l32_0:Int)∧
 ∃n37:Int,(∀w,D w→w.cell? a36=some (.int .u64 n37))∧
 ∃a39:Addr,p32_0=some a39∧(0:Int)≤1∧1<(l32_0:Int)∧
 ∃n40:Int,(∀w,D w→w.cell? (a39.add 1)=some (.int .u64 n40))∧
 Alloc #[.int .u64 0,.int .i64 0,.slice none 0 0] 79 w15.drew fun k9 w16=>
 D w16∧
 St3 k9 (.int .u64 n37) (.int .i64 (IntKind.i64.wrap n40)) (.slice none 0 0) w16 fun w19=>
 ∃a44:Addr,p32_0=some a44∧(0:Int)≤2∧2<(l32_0:Int)∧
 ∃n45:Int,w19.cell? (a44.add 2)=some (.int .u64 n45)∧
 Br (decide (n45>40)) (
 St3 k2 (.int .u64 0) (.int .i64 0) (.slice none 0 0) w19 fun w22=>
 Rduis w22 k2 fun nr2_0_3 nr2_1_3 pr2_2_3 lr2_2_3 cr2_2_3=>
 R (.tuple #[Aguis nr2_0_3 nr2_1_3 pr2_2_3 lr2_2_3 cr2_2_3,.int .u32 0,.int .i64 1]) w22) (
 LoopP (fun I=>I [.int .i64 0] w19) fun K vs w23=>∃n10:Int,vs=[.int .i64 n10]∧
 ∃a50:Addr,p32_0=some a50∧(0:Int)≤2∧2<(l32_0:Int)∧
 ∃n51:Int,w23.cell? (a50.add 2)=some (.int .u64 n51)∧
 Br (decide (n10<(IntKind.i64.wrap n51))) (
 ∃n59:Int,∃w24,(Instr.index 9 (.string s18_0) (.int .i64 (IntKind.i64.wrap (19+n10)))).run Tp w23=.ok (.int .u8 n59) w24∧
 ∃(p62:Option Addr) (l62 c62:Nat),w24.cell? ⟨k9,2,none⟩=some (.slice p62 l62 c62)∧
 Alloc #[.int .i64 (IntKind.i64.wrap (Int.tdiv (IntKind.i64.wrap n59) 4)),.int .i64 (Int.tmod (IntKind.i64.wrap n59) 4),.string (ByteArray.mk #[])] 136 w24 fun k68 w25=>
 ∃(p69:Option Addr) (l69 c69:Nat),∃w26,(builtin .append #[76,76] 76 #[false,false] #[.slice p62 l62 c62,.slice (some ⟨k68,0,none⟩) 1 1]).run Tp w25=.ok (.value (.slice p69 l69 c69)) w26∧
 St ⟨k9,2,none⟩ (.slice p69 l69 c69) w26 fun w27=>
 K [.int .i64 (IntKind.i64.wrap (n10+1))] w27) (
 ∃D_1:World→Prop,D_1 w23.drew∧
 RDuis D_1 k9 fun n71_0 n71_1 p71_2 l71_2 c71_2=>
 C2 214 #[Aguis n71_0 n71_1 p71_2 l71_2 c71_2] w23.drew fun b72 w28=>
 D_1 w28∧
 Br (!b72) (
 St3 k2 (.int .u64 0) (.int .i64 0) (.slice none 0 0) w28 fun w31=>
 Rduis w31 k2 fun nr2_0_4 nr2_1_4 pr2_2_4 lr2_2_4 cr2_2_4=>
 R (.tuple #[Aguis nr2_0_4 nr2_1_4 pr2_2_4 lr2_2_4 cr2_2_4,.int .u32 0,.int .i64 1]) w31) (
 RDuis D_1 k9 fun n75_0 n75_1 p75_2 l75_2 c75_2=>
 ∃a77:Addr,p32_0=some a77∧(0:Int)≤3∧3<(l32_0:Int)∧
 ∃n78:Int,(∀w,D_1 w→w.cell? (a77.add 3)=some (.int .u64 n78))∧
 C0 215 #[Aguis n75_0 n75_1 p75_2 l75_2 c75_2,.int .u32 (IntKind.u32.wrap n78)] w28 fun s80 w32=>
 D_1 w32∧
 Br (!(s80.toList==s0.toList)) (
 St3 k2 (.int .u64 0) (.int .i64 0) (.slice none 0 0) w32 fun w35=>
 Rduis w35 k2 fun nr2_0_5 nr2_1_5 pr2_2_5 lr2_2_5 cr2_2_5=>
 R (.tuple #[Aguis nr2_0_5 nr2_1_5 pr2_2_5 lr2_2_5 cr2_2_5,.int .u32 0,.int .i64 1]) w35) (
 ∃D_2:World→Prop,D_2 w32.drew∧
 RDuis D_2 k9 fun n85_0 n85_1 p85_2 l85_2 c85_2=>
 ∃a87:Addr,p32_0=some a87∧(0:Int)≤3∧3<(l32_0:Int)∧
 ∃n88:Int,(∀w,D_2 w→w.cell? (a87.add 3)=some (.int .u64 n88))∧
 St ⟨k2,0,none⟩ (.int .u64 n85_0) w32.drew fun w36=>
 St ⟨k2,1,none⟩ (.int .i64 n85_1) w36 fun w37=>
 St ⟨k2,2,none⟩ (.slice p85_2 l85_2 c85_2) w37 fun w38=>
 D_2 w38∧
 Rduis w38 k2 fun nr2_0_6 nr2_1_6 pr2_2_6 lr2_2_6 cr2_2_6=>
 R (.tuple #[Aguis nr2_0_6 nr2_1_6 pr2_2_6 lr2_2_6 cr2_2_6,.int .u32 (IntKind.u32.wrap n88),.int .i64 0]) w38)))))))
theorem revetmentref12_Head_calls {s0:ByteArray}(h:revetmentref12_Head s0 w R):Calls Tp 173 #[.string s0] w (RT R):=fnE (pl:=(.s .o (.s .o (.s .o (.s .o (.s .o (.s .o (.s .o (.s .o (.s (.s .o (.b (.l [(10,.one (.int .i64))] .o))) .o)))))))))) callable Tryz.func173 h (by kernel_rfl)
def revetmentref12_Decode (s0:ByteArray) (p1:Option Addr) (l1 c1:Nat) (w:World) (R:Value→World→Prop):Prop:=
 Alloc #[.int .u64 0,.int .i64 0,.slice none 0 0] 79 w fun k4 w1=>
 C18 173 #[.string s0] w1 fun n14_0_0 n14_0_1 p14_0_2 l14_0_2 c14_0_2 n14_1 n14_2 w2=>
 Alloc #[.int .u64 0,.int .i64 0,.slice none 0 0] 79 w2 fun k6 w3=>
 St3 k6 (.int .u64 n14_0_0) (.int .i64 n14_0_1) (.slice p14_0_2 l14_0_2 c14_0_2) w3 fun w6=>
 Br (n14_2 != 0) (
 St3 k4 (.int .u64 0) (.int .i64 0) (.slice none 0 0) w6 fun w9=>
 Rduis w9 k4 fun nr4_0 nr4_1 pr4_2 lr4_2 cr4_2=>
 R (.tuple #[Aguis nr4_0 nr4_1 pr4_2 lr4_2 cr4_2,.int .i64 n14_2]) w9) (
 ∃(p25:Option Addr) (l25 c25:Nat),w6.cell? ⟨k6,2,none⟩=some (.slice p25 l25 c25)∧
 Br ((l1:Int) != (l25:Int)) (
 St3 k4 (.int .u64 0) (.int .i64 0) (.slice none 0 0) w6 fun w12=>
 Rduis w12 k4 fun nr4_0_1 nr4_1_1 pr4_2_1 lr4_2_1 cr4_2_1=>
 R (.tuple #[Aguis nr4_0_1 nr4_1_1 pr4_2_1 lr4_2_1 cr4_2_1,.int .i64 31]) w12) (
 Alloc #[] 136 w6 fun k29 w13=>
 LoopP (fun I=>I [.string (ByteArray.mk #[]),.slice (some ⟨k29,0,none⟩) 0 0,.int .i64 0] w13) fun K vs w14=>∃s9:ByteArray,∃(p10:Option Addr) (l10 c10:Nat),∃n11:Int,vs=[.string s9,.slice p10 l10 c10,.int .i64 n11]∧
 Br (decide (n11<(l1:Int))) (
 ∃a38:Addr,p1=some a38∧(0:Int)≤n11∧n11<(l1:Int)∧
 ∃s39:ByteArray,w14.cell? (Addr.add a38 (n11.toNat*1))=some (.string s39)∧
 Br ((s39.size:Int) != 64) (
 St3 k4 (.int .u64 0) (.int .i64 0) (.slice none 0 0) w14 fun w17=>
 Rduis w17 k4 fun nr4_0_2 nr4_1_2 pr4_2_2 lr4_2_2 cr4_2_2=>
 R (.tuple #[Aguis nr4_0_2 nr4_1_2 pr4_2_2 lr4_2_2 cr4_2_2,.int .i64 31]) w17) (
 ∃a46:Addr,p1=some a46∧(0:Int)≤n11∧n11<(l1:Int)∧
 ∃s47:ByteArray,w14.cell? (Addr.add a46 (n11.toNat*1))=some (.string s47)∧
 ((s9.size+s47.size:Nat):Int)≤9223372036854775807∧
 ∃D:World→Prop,D w14.drew∧
 ∃(p51:Option Addr) (l51 c51:Nat),(∀w,D w→w.cell? ⟨k6,2,none⟩=some (.slice p51 l51 c51))∧
 ∃a53:Addr,p51=some a53∧(0:Int)≤n11∧n11<(l51:Int)∧
 ∃n55:Int,(∀w,D w→w.cell? (Addr.add a53 (n11.toNat*3))=some (.int .i64 n55))∧
 ∃(p57:Option Addr) (l57 c57:Nat),(∀w,D w→w.cell? ⟨k6,2,none⟩=some (.slice p57 l57 c57))∧
 ∃a59:Addr,p57=some a59∧(0:Int)≤n11∧n11<(l57:Int)∧
 ∃n61:Int,(∀w,D w→w.cell? (Addr.add (Addr.add a59 (n11.toNat*3)) 1)=some (.int .i64 n61))∧
 ∃a64:Addr,p1=some a64∧(0:Int)≤n11∧n11<(l1:Int)∧
 ∃s65:ByteArray,(∀w,D w→w.cell? (Addr.add a64 (n11.toNat*1))=some (.string s65))∧
 Alloc #[.int .i64 n55,.int .i64 n61,.string s65] 136 w14.drew fun k67 w18=>
 D w18∧
 ∃(p68:Option Addr) (l68 c68:Nat),∃w19,(builtin .append #[76,76] 76 #[false,false] #[.slice p10 l10 c10,.slice (some ⟨k67,0,none⟩) 1 1]).run Tp w18=.ok (.value (.slice p68 l68 c68)) w19∧
 D w19∧
 K [.string (s9++s47),.slice p68 l68 c68,.int .i64 (IntKind.i64.wrap (n11+1))] w19)) (
 C16 170 #[.string s9] w14 fun n70 w20=>
 Br (n70 != n14_1) (
 St3 k4 (.int .u64 0) (.int .i64 0) (.slice none 0 0) w20 fun w23=>
 Rduis w23 k4 fun nr4_0_3 nr4_1_3 pr4_2_3 lr4_2_3 cr4_2_3=>
 R (.tuple #[Aguis nr4_0_3 nr4_1_3 pr4_2_3 lr4_2_3 cr4_2_3,.int .i64 80]) w23) (
 St ⟨k6,2,none⟩ (.slice p10 l10 c10) w20 fun w24=>
 Rduis w24 k6 fun n76_0 n76_1 p76_2 l76_2 c76_2=>
 St3 k4 (.int .u64 n76_0) (.int .i64 n76_1) (.slice p76_2 l76_2 c76_2) w24 fun w27=>
 Rduis w27 k4 fun nr4_0_4 nr4_1_4 pr4_2_4 lr4_2_4 cr4_2_4=>
 R (.tuple #[Aguis nr4_0_4 nr4_1_4 pr4_2_4 lr4_2_4 cr4_2_4,.int .i64 0]) w27))))
theorem revetmentref12_Decode_calls {s0:ByteArray}{p1:Option Addr}{l1 c1:Nat}(h:revetmentref12_Decode s0 p1 l1 c1 w R):Calls Tp 174 #[.string s0,.slice p1 l1 c1] w (RT R):=fnE (pl:=(.s .o (.s .o (.s .o (.s .o (.s .o (.s .o (.s (.s .o (.b (.l [(9,.one .str),(10,.one .slice),(11,.one (.int .i64))] .o))) .o)))))))) callable Tryz.func174 h (by kernel_rfl)
def revetmentref01_Times (s0:ByteArray) (n1:Int) (w:World) (R:Value→World→Prop):Prop:=
 Alloc #[] 5 w fun k7 w1=>
 LoopP (fun I=>I [.slice (some ⟨k7,0,none⟩) 0 0,.int .i64 0] w1) fun K vs w2=>∃(p5:Option Addr) (l5 c5:Nat),∃n6:Int,vs=[.slice p5 l5 c5,.int .i64 n6]∧
 Br (decide (n6<(s0.size:Int))) (
 ∃n17:Int,∃w3,(Instr.index 9 (.string s0) (.int .i64 n6)).run Tp w2=.ok (.int .u8 n17) w3∧
 C21 222 #[.int .u8 n17,.int .u8 n1] w3 fun n19 w4=>
 Alloc #[.int .u8 n19] 5 w4 fun k20 w5=>
 ∃(p21:Option Addr) (l21 c21:Nat),∃w6,(builtin .append #[86,86] 86 #[false,false] #[.slice p5 l5 c5,.slice (some ⟨k20,0,none⟩) 1 1]).run Tp w5=.ok (.value (.slice p21 l21 c21)) w6∧
 K [.slice p21 l21 c21,.int .i64 (IntKind.i64.wrap (n6+1))] w6) (
 ∃s23:ByteArray,∃w7,(convert 86 9 (.slice p5 l5 c5)).run Tp w2=.ok (.string s23) w7∧
 R (.string s23) w7)
theorem revetmentref01_Times_calls {s0:ByteArray}{n1:Int}(h:revetmentref01_Times s0 n1 w R):Calls Tp 185 #[.string s0,.int .u8 n1] w (RT R):=fnE (pl:=(.s .o (.s .o (.s (.s .o (.b (.l [(5,.one .slice),(6,.one (.int .i64))] .o))) .o)))) callable Tryz.func185 h (by kernel_rfl)
def revetmentref01_Exp (n0:Int) (w:World) (R:Value→World→Prop):Prop:=
 C21 223 #[.int .u8 2,.int .i64 n0] w fun n4 w1=>
 R (.int .u8 n4) w1
theorem revetmentref01_Exp_calls {n0:Int}(h:revetmentref01_Exp n0 w R):Calls Tp 186 #[.int .i64 n0] w (RT R):=fnE (pl:=.o) callable Tryz.func186 h (by kernel_rfl)
def revetmentref03_Fits (n0 n1:Int) (w:World) (R:Value→World→Prop):Prop:=
 Br (decide (n1<1)) (
 R (.bool false) w) (
 Br (decide (n1>8)) (
 R (.bool false) w) (
 LoopP (fun I=>I [.int .u64 n0,.int .i64 0] w) fun K vs w1=>∃n0_1 n5:Int,vs=[.int .u64 n0_1,.int .i64 n5]∧
 Br (decide (n5<n1)) (
 K [.int .u64 (Int.fdiv n0_1 (2 ^ 8)),.int .i64 (IntKind.i64.wrap (n5+1))] w1) (
 R (.bool (n0_1==0)) w1)))
theorem revetmentref03_Fits_calls {n0 n1:Int}(h:revetmentref03_Fits n0 n1 w R):Calls Tp 212 #[.int .u64 n0,.int .i64 n1] w (RT R):=fnE (pl:=(.s .o (.s .o (.s (.s .o (.b (.l [(0,.one (.int .u64)),(5,.one (.int .i64))] .o))) .o)))) callable Tryz.func212 h (by kernel_rfl)
def revetmentref02_More (n0:Int) (s1:ByteArray) (w:World) (R:Value→World→Prop):Prop:=
 LoopP (fun I=>I [.int .u32 (bits2 .xor .u32 IntKind.u32.max n0),.int .i64 0] w) fun K vs w1=>∃n5 n6:Int,vs=[.int .u32 n5,.int .i64 n6]∧
 Br (decide (n6<(s1.size:Int))) (
 ∃n20:Int,∃w2,(Instr.index 9 (.string s1) (.int .i64 n6)).run Tp w1=.ok (.int .u8 n20) w2∧
 LoopP (fun I_1=>I_1 [.int .u32 (bits2 .xor .u32 n5 (IntKind.u32.wrap n20)),.int .i64 0] w2) fun K_1 vs_1 w3=>∃n5_1 n7:Int,vs_1=[.int .u32 n5_1,.int .i64 n7]∧
 Br (decide (n7<8)) (
 Br ((bits2 .and .u32 n5_1 1)==1) (
 K_1 [.int .u32 (bits2 .xor .u32 (Int.fdiv n5_1 (2 ^ 1)) 2197175160),.int .i64 (IntKind.i64.wrap (n7+1))] w3) (
 K_1 [.int .u32 (Int.fdiv n5_1 (2 ^ 1)),.int .i64 (IntKind.i64.wrap (n7+1))] w3)) (
 K [.int .u32 n5_1,.int .i64 (IntKind.i64.wrap (n6+1))] w3)) (
 R (.int .u32 (bits2 .xor .u32 IntKind.u32.max n5)) w1)
theorem revetmentref02_More_calls {n0:Int}{s1:ByteArray}(h:revetmentref02_More n0 s1 w R):Calls Tp 213 #[.int .u32 n0,.string s1] w (RT R):=fnE (pl:=(.s .o (.s .o (.s (.s .o (.b (.l [(5,.one (.int .u32)),(6,.one (.int .i64))] (.s .o (.s (.b (.s .o (.s .o (.b (.l [(5,.one (.int .u32)),(7,.one (.int .i64))] .o))))) .o))))) .o)))) callable Tryz.func213 h (by kernel_rfl)
def revetmentref12_places (n0_0 n0_1:Int) (p0_2:Option Addr) (l0_2 c0_2:Nat) (w:World) (R:Value→World→Prop):Prop:=
 Alloc #[.int .u64 n0_0,.int .i64 n0_1,.slice p0_2 l0_2 c0_2] 79 w fun k1 w1=>
 ∃n7:Int,w1.cell? ⟨k1,1,none⟩=some (.int .i64 n7)∧
 Br (decide (n7<0)) (
 R (.bool false) w1) (
 ∃n11:Int,w1.cell? ⟨k1,1,none⟩=some (.int .i64 n11)∧
 Br (decide (n11≥256)) (
 R (.bool false) w1) (
 ∃(p16:Option Addr) (l16 c16:Nat),w1.cell? ⟨k1,2,none⟩=some (.slice p16 l16 c16)∧
 Br (decide ((l16:Int)<1)) (
 R (.bool false) w1) (
 ∃(p22:Option Addr) (l22 c22:Nat),w1.cell? ⟨k1,2,none⟩=some (.slice p22 l22 c22)∧
 Br (decide ((l22:Int)>40)) (
 R (.bool false) w1) (
 LoopP (fun I=>I [.int .i64 0] w1) fun K vs w2=>∃n3:Int,vs=[.int .i64 n3]∧
 ∃(p28:Option Addr) (l28 c28:Nat),w2.cell? ⟨k1,2,none⟩=some (.slice p28 l28 c28)∧
 Br (decide (n3<(l28:Int))) (
 ∃(p34:Option Addr) (l34 c34:Nat),w2.cell? ⟨k1,2,none⟩=some (.slice p34 l34 c34)∧
 ∃a36:Addr,p34=some a36∧(0:Int)≤n3∧n3<(l34:Int)∧
 ∃n37_0 n37_1:Int,∃s37_2:ByteArray,(w2.cell? (Addr.add a36 (n3.toNat*3))=some (.int .i64 n37_0)∧w2.cell? (Addr.add (Addr.add a36 (n3.toNat*3)) 1)=some (.int .i64 n37_1)∧w2.cell? (Addr.add (Addr.add a36 (n3.toNat*3)) 2)=some (.string s37_2))∧
 Alloc #[.int .i64 0,.int .i64 0,.string (ByteArray.mk #[])] 136 w2 fun k4 w3=>
 St3 k4 (.int .i64 n37_0) (.int .i64 n37_1) (.string s37_2) w3 fun w6=>
 ∃n39:Int,w6.cell? ⟨k4,0,none⟩=some (.int .i64 n39)∧
 Br (decide (n39<0)) (
 R (.bool false) w6) (
 ∃n43:Int,w6.cell? ⟨k4,0,none⟩=some (.int .i64 n43)∧
 Br (decide (n43≥10)) (
 R (.bool false) w6) (
 ∃n48:Int,w6.cell? ⟨k4,1,none⟩=some (.int .i64 n48)∧
 Br (decide (n48<0)) (
 R (.bool false) w6) (
 ∃n53:Int,w6.cell? ⟨k4,1,none⟩=some (.int .i64 n53)∧
 Br (decide (n53≥4)) (
 R (.bool false) w6) (
 LoopP (fun I_1=>I_1 [.int .i64 0] w6) fun K_1 vs_1 w7=>∃n5:Int,vs_1=[.int .i64 n5]∧
 Br (decide (n5<n3)) (
 ∃D:World→Prop,D w7.drew∧
 ∃(p62:Option Addr) (l62 c62:Nat),(∀w,D w→w.cell? ⟨k1,2,none⟩=some (.slice p62 l62 c62))∧
 ∃a64:Addr,p62=some a64∧(0:Int)≤n5∧n5<(l62:Int)∧
 ∃n66:Int,(∀w,D w→w.cell? (Addr.add a64 (n5.toNat*3))=some (.int .i64 n66))∧
 ∃n68:Int,(∀w,D w→w.cell? ⟨k4,0,none⟩=some (.int .i64 n68))∧
 Br (n66==n68) (
 ∃(p72:Option Addr) (l72 c72:Nat),(∀w,D w→w.cell? ⟨k1,2,none⟩=some (.slice p72 l72 c72))∧
 ∃a74:Addr,p72=some a74∧(0:Int)≤n5∧n5<(l72:Int)∧
 ∃n76:Int,(∀w,D w→w.cell? (Addr.add (Addr.add a74 (n5.toNat*3)) 1)=some (.int .i64 n76))∧
 ∃n78:Int,(∀w,D w→w.cell? ⟨k4,1,none⟩=some (.int .i64 n78))∧
 Br (n76==n78) (
 R (.bool false) w7.drew) (
 K_1 [.int .i64 (IntKind.i64.wrap (n5+1))] w7.drew)) (
 K_1 [.int .i64 (IntKind.i64.wrap (n5+1))] w7.drew)) (
 K [.int .i64 (IntKind.i64.wrap (n3+1))] w7)))))) (
 R (.bool true) w2)))))
theorem revetmentref12_places_calls {n0_0 n0_1:Int}{p0_2:Option Addr}{l0_2 c0_2:Nat}(h:revetmentref12_places n0_0 n0_1 p0_2 l0_2 c0_2 w R):Calls Tp 214 #[Aguis n0_0 n0_1 p0_2 l0_2 c0_2] w (RT R):=fnE (pl:=(.s .o (.s .o (.s (.s .o (.b (.l [(3,.one (.int .i64))] (.s .o (.s (.b (.s .o (.s .o (.s .o (.b (.l [(5,.one (.int .i64))] .o)))))) .o))))) .o)))) callable Tryz.func214 h (by kernel_rfl)
def revetmentref12_head (n0_0 n0_1:Int) (p0_2:Option Addr) (l0_2 c0_2:Nat) (n1:Int) (w:World) (R:Value→World→Prop):Prop:=
 Alloc #[.int .u64 n0_0,.int .i64 n0_1,.slice p0_2 l0_2 c0_2] 79 w fun k2 w1=>
 ∃n13:Int,w1.cell? ⟨k2,0,none⟩=some (.int .u64 n13)∧
 ∃n15:Int,w1.cell? ⟨k2,1,none⟩=some (.int .i64 n15)∧
 ∃(p18:Option Addr) (l18 c18:Nat),w1.cell? ⟨k2,2,none⟩=some (.slice p18 l18 c18)∧
 Alloc #[.int .u64 n13,.int .u64 (IntKind.u64.wrap n15),.int .u64 (IntKind.u64.wrap (l18:Int)),.int .u64 (IntKind.u64.wrap n1)] 70 w1 fun k23 w2=>
 Alloc #[.int .i64 8,.int .i64 2,.int .i64 1,.int .i64 4] 3 w2 fun k24 w3=>
 C6 165 #[.slice (some ⟨k23,0,none⟩) 4 4,.slice (some ⟨k24,0,none⟩) 4 4] w3 fun s25_0 n25_1 w4=>
 (((ByteArray.mk #[82,86,84,74]).size+s25_0.size:Nat):Int)≤9223372036854775807∧
 LoopP (fun I=>I [.string ((ByteArray.mk #[82,86,84,74])++s25_0),.int .i64 0] w4) fun K vs w5=>∃s7:ByteArray,∃n8:Int,vs=[.string s7,.int .i64 n8]∧
 ∃(p32:Option Addr) (l32 c32:Nat),w5.cell? ⟨k2,2,none⟩=some (.slice p32 l32 c32)∧
 Br (decide (n8<(l32:Int))) (
 ∃D:World→Prop,D w5.drew∧
 ∃(p39:Option Addr) (l39 c39:Nat),(∀w,D w→w.cell? ⟨k2,2,none⟩=some (.slice p39 l39 c39))∧
 ∃a41:Addr,p39=some a41∧(0:Int)≤n8∧n8<(l39:Int)∧
 ∃n43:Int,(∀w,D w→w.cell? (Addr.add a41 (n8.toNat*3))=some (.int .i64 n43))∧
 ∃(p46:Option Addr) (l46 c46:Nat),(∀w,D w→w.cell? ⟨k2,2,none⟩=some (.slice p46 l46 c46))∧
 ∃a48:Addr,p46=some a48∧(0:Int)≤n8∧n8<(l46:Int)∧
 ∃n50:Int,(∀w,D w→w.cell? (Addr.add (Addr.add a48 (n8.toNat*3)) 1)=some (.int .i64 n50))∧
 Alloc #[.int .u8 (IntKind.u8.wrap (IntKind.i64.wrap ((IntKind.i64.wrap (4*n43))+n50)))] 5 w5.drew fun k53 w6=>
 D w6∧
 ∃s54:ByteArray,(∀x0,x0=w6→(convert 86 9 (.slice (some ⟨k53,0,none⟩) 1 1)).run Tp x0=.ok (.string s54) x0)∧
 ((s7.size+s54.size:Nat):Int)≤9223372036854775807∧
 K [.string (s7++s54),.int .i64 (IntKind.i64.wrap (n8+1))] w6) (
 C13 166 #[.string s7,.int .i64 64] w5 fun s58_0 b58_1 w7=>
 R (.string s58_0) w7)
theorem revetmentref12_head_calls {n0_0 n0_1:Int}{p0_2:Option Addr}{l0_2 c0_2:Nat}{n1:Int}(h:revetmentref12_head n0_0 n0_1 p0_2 l0_2 c0_2 n1 w R):Calls Tp 215 #[Aguis n0_0 n0_1 p0_2 l0_2 c0_2,.int .u32 n1] w (RT R):=fnE (pl:=(.s .o (.s .o (.s .o (.s (.s .o (.b (.l [(7,.one .str),(8,.one (.int .i64))] .o))) .o))))) callable Tryz.func215 h (by kernel_rfl)
def revetmentref01_Mul (n0 n1:Int) (w:World) (R:Value→World→Prop):Prop:=
 LoopP (fun I=>I [.int .i64 0,.int .i64 (IntKind.i64.wrap n0),.int .i64 0] w) fun K vs w1=>∃n5 n6 n7:Int,vs=[.int .i64 n5,.int .i64 n6,.int .i64 n7]∧
 Br (decide (n7<8)) (
 Join (fun vs_1 w2=>∃n5_1:Int,vs_1=[.int .i64 n5_1]∧
 Br (decide ((IntKind.i64.wrap (n6*2 ^ 1))≥256)) (
 K [.int .i64 n5_1,.int .i64 (bits2 .xor .i64 (IntKind.i64.wrap (n6*2 ^ 1)) 285),.int .i64 (IntKind.i64.wrap (n7+1))] w2) (
 K [.int .i64 n5_1,.int .i64 (IntKind.i64.wrap (n6*2 ^ 1)),.int .i64 (IntKind.i64.wrap (n7+1))] w2)) fun J=>
 (0:Int)≤n7∧
 Br ((bits2 .and .i64 (Int.fdiv (IntKind.i64.wrap n1) (2 ^ (min n7.toNat 64))) 1)==1) (
 J [.int .i64 (bits2 .xor .i64 n5 n6)] w1) (
 J [.int .i64 n5] w1)) (
 R (.int .u8 (IntKind.u8.wrap n5)) w1)
theorem revetmentref01_Mul_calls {n0 n1:Int}(h:revetmentref01_Mul n0 n1 w R):Calls Tp 222 #[.int .u8 n0,.int .u8 n1] w (RT R):=fnE (pl:=(.s .o (.s .o (.s .o (.s (.s .o (.b (.l [(5,.one (.int .i64)),(6,.one (.int .i64)),(7,.one (.int .i64))] (.s .o (.s (.b (.j [(5,.one (.int .i64))] .o .o)) .o))))) .o))))) callable Tryz.func222 h (by kernel_rfl)
def revetmentref01_Pow (n0 n1:Int) (w:World) (R:Value→World→Prop):Prop:=
 Br (n1==0) (
 R (.int .u8 1) w) (
 Br (n0==0) (
 R (.int .u8 0) w) (
 Join (fun vs w1=>∃n5:Int,vs=[.int .i64 n5]∧
 LoopP (fun I=>I [.int .u8 1,.int .i64 0] w1) fun K vs_1 w2=>∃n6 n7:Int,vs_1=[.int .u8 n6,.int .i64 n7]∧
 Br (decide (n7<n5)) (
 C21 222 #[.int .u8 n6,.int .u8 n0] w2 fun n25 w3=>
 K [.int .u8 n25,.int .i64 (IntKind.i64.wrap (n7+1))] w3) (
 R (.int .u8 n6) w2)) fun J=>
 Br (decide ((Int.tmod n1 255)<0)) (
 J [.int .i64 (IntKind.i64.wrap ((Int.tmod n1 255)+255))] w) (
 J [.int .i64 (Int.tmod n1 255)] w)))
theorem revetmentref01_Pow_calls {n0 n1:Int}(h:revetmentref01_Pow n0 n1 w R):Calls Tp 223 #[.int .u8 n0,.int .i64 n1] w (RT R):=fnE (pl:=(.s .o (.s .o (.s .o (.s .o (.j [(5,.one (.int .i64))] .o (.s .o (.s (.s .o (.b (.l [(6,.one (.int .u8)),(7,.one (.int .i64))] .o))) .o)))))))) callable Tryz.func223 h (by kernel_rfl)
end Go.Proofs.YtkknkmplmilihaaGreat
