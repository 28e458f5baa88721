import Derived.Test.YtkknkmplmilihaaGreatD2
import Derived.Test.YtkknkmplmilihaaGreatD6
namespace Go.Proofs.YtkknkmplmilihaaGreat
open Go.Sh
set_option linter.unusedVariables false
set_option maxRecDepth 100000
variable {w:World}{R:Value→World→Prop}
def revetmentlaw17_weighs (p0:Option Addr) (l0 c0:Nat) (w:World) (R:Value→World→Prop):Prop:=
 Br (decide ((l0:Int)>30)) (
 R (.bool true) w) (
 LoopP (fun I=>I [.int .i64 0] w) fun K vs w1=>∃n3:Int,vs=[.int .i64 n3]∧
 Br (decide (n3<(l0:Int))) (
 ∃a15:Addr,p0=some a15∧(0:Int)≤n3∧n3<(l0:Int)∧
 ∃s17:ByteArray,w1.cell? (Addr.add (Addr.add a15 (n3.toNat*3)) 2)=some (.string s17)∧
 Br (decide ((s17.size:Int)>100)) (
 R (.bool true) w1) (
 K [.int .i64 (IntKind.i64.wrap (n3+1))] w1)) (
 R (.bool false) w1))
theorem revetmentlaw17_weighs_calls {p0:Option Addr}{l0 c0:Nat}(h:revetmentlaw17_weighs p0 l0 c0 w R):Calls Tp 10 #[.slice p0 l0 c0] w (RT R):=fnE (pl:=(.s .o (.s .o (.s (.s .o (.b (.l [(3,.one (.int .i64))] .o))) .o)))) callable Tryz.func10 h (by kernel_rfl)
def revetmentlaw17_shown (w:World) (R:Value→World→Prop):Prop:=
 C4 12 #[.int .u8 0,.int .u8 0,.int .u8 1] w fun n7_0 n7_1 n7_2 w1=>
 C5 13 #[Agiii n7_0 n7_1 n7_2,.bool true] w1 fun n8_0_0 n8_0_1 n8_0_2 p8_0_3 l8_0_3 c8_0_3 p8_0_4 l8_0_4 c8_0_4 n8_0_5 n8_0_6 n8_0_7 p8_0_8 l8_0_8 c8_0_8 p8_0_9 l8_0_9 c8_0_9 p8_0_10 p8_0_11 p8_0_12 p8_0_13 b8_1 w2=>
 Alloc #[.int .i64 0,.int .i64 0,.int .i64 0,.slice none 0 0,.slice none 0 0,.int .i64 0,.int .i64 0,.int .i64 0,.slice none 0 0,.slice none 0 0,.pointer none,.pointer none,.pointer none,.pointer none] 40 w2 fun k1 w3=>
 St14 k1 (.int .i64 n8_0_0) (.int .i64 n8_0_1) (.int .i64 n8_0_2) (.slice p8_0_3 l8_0_3 c8_0_3) (.slice p8_0_4 l8_0_4 c8_0_4) (.int .i64 n8_0_5) (.int .i64 n8_0_6) (.int .i64 n8_0_7) (.slice p8_0_8 l8_0_8 c8_0_8) (.slice p8_0_9 l8_0_9 c8_0_9) (.pointer p8_0_10) (.pointer p8_0_11) (.pointer p8_0_12) (.pointer p8_0_13) w3 fun w17=>
 Br (!b8_1) (
 R (.bool false) w17) (
 ∃D:World→Prop,D w17.drew∧
 RDiiiss D k1 fun n14_0 n14_1 n14_2 p14_3 l14_3 c14_3 p14_4 l14_4 c14_4=>
 ∃p16:Option Addr,(∀w,D w→w.cell? ⟨k1,12,none⟩=some (.pointer p16))∧
 C0 15 #[.string (ByteArray.mk #[97])] w17.drew fun s17 w18=>
 D w18∧
 Alloc #[.int .i64 1,.int .i64 0,.string s17] 47 w18 fun k19 w19=>
 D w19∧
 C3 16 #[Agiiiss n14_0 n14_1 n14_2 p14_3 l14_3 c14_3 p14_4 l14_4 c14_4,.pointer p16,.int .i64 0,.slice (some ⟨k19,0,none⟩) 1 1] w19 fun n20 w20=>
 D w20∧
 Rdiiiss w20 k1 fun n23_0 n23_1 n23_2 p23_3 l23_3 c23_3 p23_4 l23_4 c23_4=>
 C6 17 #[Agiiiss n23_0 n23_1 n23_2 p23_3 l23_3 c23_3 p23_4 l23_4 c23_4,.int .i64 0,.int .i64 0,.int .i64 1] w20 fun s24_0 n24_1 w21=>
 Br (n20==0) (
 Br (n24_1==0) (
 C0 15 #[.string (ByteArray.mk #[97])] w21 fun s35 w22=>
 R (.bool (s24_0.toList==s35.toList)) w22) (
 R (.bool false) w21)) (
 R (.bool false) w21))
theorem revetmentlaw17_shown_calls (h:revetmentlaw17_shown w R):Calls Tp 11 #[] w (RT R):=fnE (pl:=.o) callable Tryz.func11 h (by kernel_rfl)
def revetmentlaw17_geometry (n0 n1 n2:Int) (w:World) (R:Value→World→Prop):Prop:=
 Alloc #[.int .i64 0,.int .i64 0,.int .i64 0] 26 w fun k6 w1=>
 St3 k6 (.int .i64 (IntKind.i64.wrap (4+(Int.tmod (IntKind.i64.wrap n0) 4)))) (.int .i64 (IntKind.i64.wrap (1+(Int.tmod (IntKind.i64.wrap n1) 3)))) (.int .i64 (IntKind.i64.wrap (1+(Int.tmod (IntKind.i64.wrap n2) 6)))) w1 fun w4=>
 Rdiii w4 k6 fun nr6_0 nr6_1 nr6_2=>
 R ((Agiii nr6_0 nr6_1 nr6_2)) w4
theorem revetmentlaw17_geometry_calls {n0 n1 n2:Int}(h:revetmentlaw17_geometry n0 n1 n2 w R):Calls Tp 12 #[.int .u8 n0,.int .u8 n1,.int .u8 n2] w (RT R):=fnE (pl:=.o) callable Tryz.func12 h (by kernel_rfl)
def revetmentlaw17_begin (n0_0 n0_1 n0_2:Int) (b1:Bool) (w:World) (R:Value→World→Prop):Prop:=
 Alloc #[.int .i64 n0_0,.int .i64 n0_1,.int .i64 n0_2] 26 w fun k2 w1=>
 Alloc #[.int .i64 0,.int .i64 0,.int .i64 0,.slice none 0 0,.slice none 0 0,.int .i64 0,.int .i64 0,.int .i64 0,.slice none 0 0,.slice none 0 0,.pointer none,.pointer none,.pointer none,.pointer none] 40 w1 fun k4 w2=>
 Rdiii w2 k2 fun n15_0 n15_1 n15_2=>
 Rdiii w2 k2 fun n17_0 n17_1 n17_2=>
 Alloc #[.int .i64 0,.int .i64 0,.int .i64 0,.slice none 0 0,.slice none 0 0,.int .i64 0,.int .i64 0,.int .i64 0,.slice none 0 0,.slice none 0 0,.pointer none,.pointer none,.pointer none,.pointer none] 40 w2 fun k6 w3=>
 St14 k6 (.int .i64 n15_0) (.int .i64 n15_1) (.int .i64 n15_2) (.slice none 0 0) (.slice none 0 0) (.int .i64 n17_0) (.int .i64 n17_1) (.int .i64 n17_2) (.slice none 0 0) (.slice none 0 0) (.pointer none) (.pointer none) (.pointer none) (.pointer none) w3 fun w17=>
 ∃n21:Int,w17.cell? ⟨k2,2,none⟩=some (.int .i64 n21)∧
 ∃n23:Int,w17.cell? ⟨k2,1,none⟩=some (.int .i64 n23)∧
 LoopP (fun I=>I [.int .i64 0] w17) fun K vs w18=>∃n8:Int,vs=[.int .i64 n8]∧
 ∃n28:Int,w18.cell? ⟨k2,0,none⟩=some (.int .i64 n28)∧
 Br (decide (n8<n28)) (
 ∃D:World→Prop,D w18.drew∧
 ∃(p34:Option Addr) (l34 c34:Nat),(∀w,D w→w.cell? ⟨k6,3,none⟩=some (.slice p34 l34 c34))∧
 C7 38 #[.int .i64 (IntKind.i64.wrap (4+(IntKind.i64.wrap (n21*n23))))] w18.drew fun p36 w19=>
 D w19∧
 Alloc #[.pointer p36] 35 w19 fun k37 w20=>
 D w20∧
 ∃(p38:Option Addr) (l38 c38:Nat),∃w21,(builtin .append #[28,28] 28 #[false,false] #[.slice p34 l34 c34,.slice (some ⟨k37,0,none⟩) 1 1]).run Tp w20=.ok (.value (.slice p38 l38 c38)) w21∧
 D w21∧
 St ⟨k6,3,none⟩ (.slice p38 l38 c38) w21 fun w22=>
 ∃D_1:World→Prop,D_1 w22.drew∧
 ∃(p43:Option Addr) (l43 c43:Nat),(∀w,D_1 w→w.cell? ⟨k6,8,none⟩=some (.slice p43 l43 c43))∧
 C7 39 #[.int .i64 (IntKind.i64.wrap (4+(IntKind.i64.wrap (n21*n23))))] w22.drew fun p45 w23=>
 D_1 w23∧
 Alloc #[.pointer p45] 36 w23 fun k46 w24=>
 D_1 w24∧
 ∃(p47:Option Addr) (l47 c47:Nat),∃w25,(builtin .append #[32,32] 32 #[false,false] #[.slice p43 l43 c43,.slice (some ⟨k46,0,none⟩) 1 1]).run Tp w24=.ok (.value (.slice p47 l47 c47)) w25∧
 D_1 w25∧
 St ⟨k6,8,none⟩ (.slice p47 l47 c47) w25 fun w26=>
 ∃(p52:Option Addr) (l52 c52:Nat),w26.cell? ⟨k6,4,none⟩=some (.slice p52 l52 c52)∧
 ∃n54:Int,w26.cell? ⟨k2,2,none⟩=some (.int .i64 n54)∧
 Alloc #[.int .i64 n54] 3 w26 fun k55 w27=>
 ∃(p56:Option Addr) (l56 c56:Nat),∃w28,(builtin .append #[29,29] 29 #[false,false] #[.slice p52 l52 c52,.slice (some ⟨k55,0,none⟩) 1 1]).run Tp w27=.ok (.value (.slice p56 l56 c56)) w28∧
 St ⟨k6,4,none⟩ (.slice p56 l56 c56) w28 fun w29=>
 ∃(p61:Option Addr) (l61 c61:Nat),w29.cell? ⟨k6,9,none⟩=some (.slice p61 l61 c61)∧
 ∃n63:Int,w29.cell? ⟨k2,2,none⟩=some (.int .i64 n63)∧
 Alloc #[.int .i64 n63] 3 w29 fun k64 w30=>
 ∃(p65:Option Addr) (l65 c65:Nat),∃w31,(builtin .append #[29,29] 29 #[false,false] #[.slice p61 l61 c61,.slice (some ⟨k64,0,none⟩) 1 1]).run Tp w30=.ok (.value (.slice p65 l65 c65)) w31∧
 St ⟨k6,9,none⟩ (.slice p65 l65 c65) w31 fun w32=>
 ∃(p70:Option Addr) (l70 c70:Nat),w32.cell? ⟨k6,3,none⟩=some (.slice p70 l70 c70)∧
 ∃a72:Addr,p70=some a72∧(0:Int)≤n8∧n8<(l70:Int)∧
 ∃p73:Option Addr,w32.cell? (Addr.add a72 (n8.toNat*1))=some (.pointer p73)∧
 Br (Option.isNone p73) (
 Rdiiissiiisspppp w32 k6 fun n75_0 n75_1 n75_2 p75_3 l75_3 c75_3 p75_4 l75_4 c75_4 n75_5 n75_6 n75_7 p75_8 l75_8 c75_8 p75_9 l75_9 c75_9 p75_10 p75_11 p75_12 p75_13=>
 St14 k4 (.int .i64 n75_0) (.int .i64 n75_1) (.int .i64 n75_2) (.slice p75_3 l75_3 c75_3) (.slice p75_4 l75_4 c75_4) (.int .i64 n75_5) (.int .i64 n75_6) (.int .i64 n75_7) (.slice p75_8 l75_8 c75_8) (.slice p75_9 l75_9 c75_9) (.pointer p75_10) (.pointer p75_11) (.pointer p75_12) (.pointer p75_13) w32 fun w46=>
 Rdiiissiiisspppp w46 k4 fun nr4_0 nr4_1 nr4_2 pr4_3 lr4_3 cr4_3 pr4_4 lr4_4 cr4_4 nr4_5 nr4_6 nr4_7 pr4_8 lr4_8 cr4_8 pr4_9 lr4_9 cr4_9 pr4_10 pr4_11 pr4_12 pr4_13=>
 R (.tuple #[Agiiissiiisspppp nr4_0 nr4_1 nr4_2 pr4_3 lr4_3 cr4_3 pr4_4 lr4_4 cr4_4 nr4_5 nr4_6 nr4_7 pr4_8 lr4_8 cr4_8 pr4_9 lr4_9 cr4_9 pr4_10 pr4_11 pr4_12 pr4_13,.bool false]) w46) (
 K [.int .i64 (IntKind.i64.wrap (n8+1))] w32)) (
 C7 38 #[.int .i64 127] w18 fun p76 w47=>
 St ⟨k6,10,none⟩ (.pointer p76) w47 fun w48=>
 C7 39 #[.int .i64 127] w48 fun p78 w49=>
 St ⟨k6,11,none⟩ (.pointer p78) w49 fun w50=>
 ∃p81:Option Addr,w50.cell? ⟨k6,10,none⟩=some (.pointer p81)∧
 Br (Option.isNone p81) (
 Rdiiissiiisspppp w50 k6 fun n95_0 n95_1 n95_2 p95_3 l95_3 c95_3 p95_4 l95_4 c95_4 n95_5 n95_6 n95_7 p95_8 l95_8 c95_8 p95_9 l95_9 c95_9 p95_10 p95_11 p95_12 p95_13=>
 St14 k4 (.int .i64 n95_0) (.int .i64 n95_1) (.int .i64 n95_2) (.slice p95_3 l95_3 c95_3) (.slice p95_4 l95_4 c95_4) (.int .i64 n95_5) (.int .i64 n95_6) (.int .i64 n95_7) (.slice p95_8 l95_8 c95_8) (.slice p95_9 l95_9 c95_9) (.pointer p95_10) (.pointer p95_11) (.pointer p95_12) (.pointer p95_13) w50 fun w64=>
 Rdiiissiiisspppp w64 k4 fun nr4_0_1 nr4_1_1 nr4_2_1 pr4_3_1 lr4_3_1 cr4_3_1 pr4_4_1 lr4_4_1 cr4_4_1 nr4_5_1 nr4_6_1 nr4_7_1 pr4_8_1 lr4_8_1 cr4_8_1 pr4_9_1 lr4_9_1 cr4_9_1 pr4_10_1 pr4_11_1 pr4_12_1 pr4_13_1=>
 R (.tuple #[Agiiissiiisspppp nr4_0_1 nr4_1_1 nr4_2_1 pr4_3_1 lr4_3_1 cr4_3_1 pr4_4_1 lr4_4_1 cr4_4_1 nr4_5_1 nr4_6_1 nr4_7_1 pr4_8_1 lr4_8_1 cr4_8_1 pr4_9_1 lr4_9_1 cr4_9_1 pr4_10_1 pr4_11_1 pr4_12_1 pr4_13_1,.bool false]) w64) (
 ∃p85:Option Addr,w50.cell? ⟨k6,10,none⟩=some (.pointer p85)∧
 C3 40 #[.pointer p85] w50 fun n86 w65=>
 Br (n86 != 0) (
 Rdiiissiiisspppp w65 k6 fun n95_0_1 n95_1_1 n95_2_1 p95_3_1 l95_3_1 c95_3_1 p95_4_1 l95_4_1 c95_4_1 n95_5_1 n95_6_1 n95_7_1 p95_8_1 l95_8_1 c95_8_1 p95_9_1 l95_9_1 c95_9_1 p95_10_1 p95_11_1 p95_12_1 p95_13_1=>
 St14 k4 (.int .i64 n95_0_1) (.int .i64 n95_1_1) (.int .i64 n95_2_1) (.slice p95_3_1 l95_3_1 c95_3_1) (.slice p95_4_1 l95_4_1 c95_4_1) (.int .i64 n95_5_1) (.int .i64 n95_6_1) (.int .i64 n95_7_1) (.slice p95_8_1 l95_8_1 c95_8_1) (.slice p95_9_1 l95_9_1 c95_9_1) (.pointer p95_10_1) (.pointer p95_11_1) (.pointer p95_12_1) (.pointer p95_13_1) w65 fun w79=>
 Rdiiissiiisspppp w79 k4 fun nr4_0_2 nr4_1_2 nr4_2_2 pr4_3_2 lr4_3_2 cr4_3_2 pr4_4_2 lr4_4_2 cr4_4_2 nr4_5_2 nr4_6_2 nr4_7_2 pr4_8_2 lr4_8_2 cr4_8_2 pr4_9_2 lr4_9_2 cr4_9_2 pr4_10_2 pr4_11_2 pr4_12_2 pr4_13_2=>
 R (.tuple #[Agiiissiiisspppp nr4_0_2 nr4_1_2 nr4_2_2 pr4_3_2 lr4_3_2 cr4_3_2 pr4_4_2 lr4_4_2 cr4_4_2 nr4_5_2 nr4_6_2 nr4_7_2 pr4_8_2 lr4_8_2 cr4_8_2 pr4_9_2 lr4_9_2 cr4_9_2 pr4_10_2 pr4_11_2 pr4_12_2 pr4_13_2,.bool false]) w79) (
 ∃p91:Option Addr,w65.cell? ⟨k6,11,none⟩=some (.pointer p91)∧
 C3 41 #[.pointer p91] w65 fun n92 w80=>
 Br (n92 != 0) (
 Rdiiissiiisspppp w80 k6 fun n95_0_2 n95_1_2 n95_2_2 p95_3_2 l95_3_2 c95_3_2 p95_4_2 l95_4_2 c95_4_2 n95_5_2 n95_6_2 n95_7_2 p95_8_2 l95_8_2 c95_8_2 p95_9_2 l95_9_2 c95_9_2 p95_10_2 p95_11_2 p95_12_2 p95_13_2=>
 St14 k4 (.int .i64 n95_0_2) (.int .i64 n95_1_2) (.int .i64 n95_2_2) (.slice p95_3_2 l95_3_2 c95_3_2) (.slice p95_4_2 l95_4_2 c95_4_2) (.int .i64 n95_5_2) (.int .i64 n95_6_2) (.int .i64 n95_7_2) (.slice p95_8_2 l95_8_2 c95_8_2) (.slice p95_9_2 l95_9_2 c95_9_2) (.pointer p95_10_2) (.pointer p95_11_2) (.pointer p95_12_2) (.pointer p95_13_2) w80 fun w94=>
 Rdiiissiiisspppp w94 k4 fun nr4_0_3 nr4_1_3 nr4_2_3 pr4_3_3 lr4_3_3 cr4_3_3 pr4_4_3 lr4_4_3 cr4_4_3 nr4_5_3 nr4_6_3 nr4_7_3 pr4_8_3 lr4_8_3 cr4_8_3 pr4_9_3 lr4_9_3 cr4_9_3 pr4_10_3 pr4_11_3 pr4_12_3 pr4_13_3=>
 R (.tuple #[Agiiissiiisspppp nr4_0_3 nr4_1_3 nr4_2_3 pr4_3_3 lr4_3_3 cr4_3_3 pr4_4_3 lr4_4_3 cr4_4_3 nr4_5_3 nr4_6_3 nr4_7_3 pr4_8_3 lr4_8_3 cr4_8_3 pr4_9_3 lr4_9_3 cr4_9_3 pr4_10_3 pr4_11_3 pr4_12_3 pr4_13_3,.bool false]) w94) (
 ∃p98:Option Addr,w80.cell? ⟨k6,10,none⟩=some (.pointer p98)∧
 C8 34 #[.pointer p98] w80 fun p99_0 p99_1 l99_1 c99_1 n99_2 w95=>
 ∃p105:Option Addr,w95.cell? ⟨k6,11,none⟩=some (.pointer p105)∧
 C8 42 #[.pointer p105] w95 fun p106_0 p106_1 l106_1 c106_1 n106_2 w96=>
 Join (fun vs_1 w97=>vs_1=[]∧
 Rdiiissiiisspppp w97 k6 fun n115_0 n115_1 n115_2 p115_3 l115_3 c115_3 p115_4 l115_4 c115_4 n115_5 n115_6 n115_7 p115_8 l115_8 c115_8 p115_9 l115_9 c115_9 p115_10 p115_11 p115_12 p115_13=>
 Br (n99_2==0) (
 St14 k4 (.int .i64 n115_0) (.int .i64 n115_1) (.int .i64 n115_2) (.slice p115_3 l115_3 c115_3) (.slice p115_4 l115_4 c115_4) (.int .i64 n115_5) (.int .i64 n115_6) (.int .i64 n115_7) (.slice p115_8 l115_8 c115_8) (.slice p115_9 l115_9 c115_9) (.pointer p115_10) (.pointer p115_11) (.pointer p115_12) (.pointer p115_13) w97 fun w111=>
 Rdiiissiiisspppp w111 k4 fun nr4_0_4 nr4_1_4 nr4_2_4 pr4_3_4 lr4_3_4 cr4_3_4 pr4_4_4 lr4_4_4 cr4_4_4 nr4_5_4 nr4_6_4 nr4_7_4 pr4_8_4 lr4_8_4 cr4_8_4 pr4_9_4 lr4_9_4 cr4_9_4 pr4_10_4 pr4_11_4 pr4_12_4 pr4_13_4=>
 R (.tuple #[Agiiissiiisspppp nr4_0_4 nr4_1_4 nr4_2_4 pr4_3_4 lr4_3_4 cr4_3_4 pr4_4_4 lr4_4_4 cr4_4_4 nr4_5_4 nr4_6_4 nr4_7_4 pr4_8_4 lr4_8_4 cr4_8_4 pr4_9_4 lr4_9_4 cr4_9_4 pr4_10_4 pr4_11_4 pr4_12_4 pr4_13_4,.bool (!(Option.isNone p99_0))]) w111) (
 St14 k4 (.int .i64 n115_0) (.int .i64 n115_1) (.int .i64 n115_2) (.slice p115_3 l115_3 c115_3) (.slice p115_4 l115_4 c115_4) (.int .i64 n115_5) (.int .i64 n115_6) (.int .i64 n115_7) (.slice p115_8 l115_8 c115_8) (.slice p115_9 l115_9 c115_9) (.pointer p115_10) (.pointer p115_11) (.pointer p115_12) (.pointer p115_13) w97 fun w125=>
 Rdiiissiiisspppp w125 k4 fun nr4_0_5 nr4_1_5 nr4_2_5 pr4_3_5 lr4_3_5 cr4_3_5 pr4_4_5 lr4_4_5 cr4_4_5 nr4_5_5 nr4_6_5 nr4_7_5 pr4_8_5 lr4_8_5 cr4_8_5 pr4_9_5 lr4_9_5 cr4_9_5 pr4_10_5 pr4_11_5 pr4_12_5 pr4_13_5=>
 R (.tuple #[Agiiissiiisspppp nr4_0_5 nr4_1_5 nr4_2_5 pr4_3_5 lr4_3_5 cr4_3_5 pr4_4_5 lr4_4_5 cr4_4_5 nr4_5_5 nr4_6_5 nr4_7_5 pr4_8_5 lr4_8_5 cr4_8_5 pr4_9_5 lr4_9_5 cr4_9_5 pr4_10_5 pr4_11_5 pr4_12_5 pr4_13_5,.bool false]) w125)) fun J=>
 Br b1 (
 St ⟨k6,12,none⟩ (.pointer p99_0) w96 fun w126=>
 St ⟨k6,13,none⟩ (.pointer p106_0) w126 fun w127=>
 J [] w127) (
 J [] w96)))))
theorem revetmentlaw17_begin_calls {n0_0 n0_1 n0_2:Int}{b1:Bool}(h:revetmentlaw17_begin n0_0 n0_1 n0_2 b1 w R):Calls Tp 13 #[Agiii n0_0 n0_1 n0_2,.bool b1] w (RT R):=fnE (pl:=(.s .o (.s .o (.s .o (.s (.s .o (.b (.l [(8,.one (.int .i64))] .o))) (.s .o (.s .o (.s .o (.s .o (.s .o (.j [] .o .o))))))))))) callable Tryz.func13 h (by kernel_rfl)
def revetmentlaw17_abs (n0:Int) (w:World) (R:Value→World→Prop):Prop:=
 Br (decide (n0<0)) (
 R (.int .i64 (IntKind.i64.wrap (0-(IntKind.i64.wrap (n0+1))))) w) (
 R (.int .i64 n0) w)
theorem revetmentlaw17_abs_calls {n0:Int}(h:revetmentlaw17_abs n0 w R):Calls Tp 14 #[.int .i64 n0] w (RT R):=fnE (pl:=.o) callable Tryz.func14 h (by kernel_rfl)
def revetmentlaw17_full (s0:ByteArray) (w:World) (R:Value→World→Prop):Prop:=
 C0 43 #[] w fun s4 w1=>
 ((s0.size+s4.size:Nat):Int)≤9223372036854775807∧
 ∃s6:ByteArray,∃w2,(Instr.sliceAt 9 (.string (s0++s4)) none (some (.int .i64 64)) none).run Tp w1=.ok (.string s6) w2∧
 R (.string s6) w2
theorem revetmentlaw17_full_calls {s0:ByteArray}(h:revetmentlaw17_full s0 w R):Calls Tp 15 #[.string s0] w (RT R):=fnE (pl:=.o) callable Tryz.func15 h (by kernel_rfl)
def stripe_Apply (n0_0 n0_1 n0_2:Int) (p0_3:Option Addr) (l0_3 c0_3:Nat) (p0_4:Option Addr) (l0_4 c0_4:Nat) (p1:Option Addr) (n2:Int) (p3:Option Addr) (l3 c3:Nat) (w:World) (R:Value→World→Prop):Prop:=
 Alloc #[.int .i64 n0_0,.int .i64 n0_1,.int .i64 n0_2,.slice p0_3 l0_3 c0_3,.slice p0_4 l0_4 c0_4] 31 w fun k4 w1=>
 Rdiiiss w1 k4 fun n14_0 n14_1 n14_2 p14_3 l14_3 c14_3 p14_4 l14_4 c14_4=>
 C9 21 #[Agiiiss n14_0 n14_1 n14_2 p14_3 l14_3 c14_3 p14_4 l14_4 c14_4,.int .i64 n2,.slice p3 l3 c3] w1 fun p17_0 l17_0 c17_0 n17_1 w2=>
 Br (n17_1 != 0) (
 R (.int .i64 n17_1) w2) (
 Br ((l17_0:Int)==0) (
 R (.int .i64 n17_1) w2) (
 Join (fun vs w3=>vs=[]∧
 Rdiiiss w3 k4 fun n40_0 n40_1 n40_2 p40_3 l40_3 c40_3 p40_4 l40_4 c40_4=>
 C3 27 #[Agiiiss n40_0 n40_1 n40_2 p40_3 l40_3 c40_3 p40_4 l40_4 c40_4,.int .i64 n2,.slice p17_0 l17_0 c17_0] w3 fun n43 w4=>
 R (.int .i64 n43) w4) fun J=>
 Br (!(Option.isNone p1)) (
 C10 44 #[.pointer p1,.int .i64 n2,.slice p17_0 l17_0 c17_0] w2 fun n34_0 n34_1 w5=>
 Br (n34_1 != 0) (
 R (.int .i64 n34_1) w5) (
 J [] w5)) (
 J [] w2)))
theorem stripe_Apply_calls {n0_0 n0_1 n0_2:Int}{p0_3:Option Addr}{l0_3 c0_3:Nat}{p0_4:Option Addr}{l0_4 c0_4:Nat}{p1:Option Addr}{n2:Int}{p3:Option Addr}{l3 c3:Nat}(h:stripe_Apply n0_0 n0_1 n0_2 p0_3 l0_3 c0_3 p0_4 l0_4 c0_4 p1 n2 p3 l3 c3 w R):Calls Tp 16 #[Agiiiss n0_0 n0_1 n0_2 p0_3 l0_3 c0_3 p0_4 l0_4 c0_4,.pointer p1,.int .i64 n2,.slice p3 l3 c3] w (RT R):=fnE (pl:=(.s .o (.s .o (.s .o (.j [] .o .o))))) callable Tryz.func16 h (by kernel_rfl)
def row_Sector (n0_0 n0_1 n0_2:Int) (p0_3:Option Addr) (l0_3 c0_3:Nat) (p0_4:Option Addr) (l0_4 c0_4:Nat) (n1 n2 n3:Int) (w:World) (R:Value→World→Prop):Prop:=
 Alloc #[.int .i64 n0_0,.int .i64 n0_1,.int .i64 n0_2,.slice p0_3 l0_3 c0_3,.slice p0_4 l0_4 c0_4] 31 w fun k4 w1=>
 Rdiiiss w1 k4 fun n17_0 n17_1 n17_2 p17_3 l17_3 c17_3 p17_4 l17_4 c17_4=>
 C11 45 #[Agiiiss n17_0 n17_1 n17_2 p17_3 l17_3 c17_3 p17_4 l17_4 c17_4,.int .i64 n1,.int .i64 n2] w1 fun n20_0_0 n20_0_1 n20_0_2 p20_0_3 l20_0_3 c20_0_3 p20_0_4 l20_0_4 c20_0_4 n20_0_5 n20_0_6 n20_1 w2=>
 Alloc #[.int .i64 0,.int .i64 0,.int .i64 0,.slice none 0 0,.slice none 0 0,.int .i64 0,.int .i64 0] 108 w2 fun k10 w3=>
 St7 k10 (.int .i64 n20_0_0) (.int .i64 n20_0_1) (.int .i64 n20_0_2) (.slice p20_0_3 l20_0_3 c20_0_3) (.slice p20_0_4 l20_0_4 c20_0_4) (.int .i64 n20_0_5) (.int .i64 n20_0_6) w3 fun w10=>
 Br (n20_1 != 0) (
 R (.tuple #[.string (ByteArray.mk #[]),.int .i64 n20_1]) w10) (
 Br (decide (n3<0)) (
 R (.tuple #[.string (ByteArray.mk #[]),.int .i64 70]) w10) (
 ∃n34:Int,w10.cell? ⟨k4,0,none⟩=some (.int .i64 n34)∧
 Br (decide (n3≥(IntKind.i64.wrap (n34-2)))) (
 R (.tuple #[.string (ByteArray.mk #[]),.int .i64 70]) w10) (
 Rdiiissii w10 k10 fun n39_0 n39_1 n39_2 p39_3 l39_3 c39_3 p39_4 l39_4 c39_4 n39_5 n39_6=>
 C6 46 #[Agiiissii n39_0 n39_1 n39_2 p39_3 l39_3 c39_3 p39_4 l39_4 c39_4 n39_5 n39_6,.int .i64 n3] w10 fun s41_0 n41_1 w11=>
 Br (n41_1 != 41) (
 R (.tuple #[.string s41_0,.int .i64 n41_1]) w11) (
 Rdiiiss w11 k4 fun n49_0 n49_1 n49_2 p49_3 l49_3 c49_3 p49_4 l49_4 c49_4=>
 C12 18 #[Agiiiss n49_0 n49_1 n49_2 p49_3 l49_3 c49_3 p49_4 l49_4 c49_4,.int .i64 n1,.int .i64 n2] w11 fun p52_0 l52_0 c52_0 p52_1 l52_1 c52_1 n52_2 w12=>
 Br (n52_2 != 0) (
 R (.tuple #[.string (ByteArray.mk #[]),.int .i64 n52_2]) w12) (
 ∃a61:Addr,p52_0=some a61∧(0:Int)≤n3∧n3<(l52_0:Int)∧
 ∃s62:ByteArray,w12.cell? (Addr.add a61 (n3.toNat*1))=some (.string s62)∧
 R (.tuple #[.string s62,.int .i64 0]) w12)))))
theorem row_Sector_calls {n0_0 n0_1 n0_2:Int}{p0_3:Option Addr}{l0_3 c0_3:Nat}{p0_4:Option Addr}{l0_4 c0_4:Nat}{n1 n2 n3:Int}(h:row_Sector n0_0 n0_1 n0_2 p0_3 l0_3 c0_3 p0_4 l0_4 c0_4 n1 n2 n3 w R):Calls Tp 17 #[Agiiiss n0_0 n0_1 n0_2 p0_3 l0_3 c0_3 p0_4 l0_4 c0_4,.int .i64 n1,.int .i64 n2,.int .i64 n3] w (RT R):=fnE (pl:=.o) callable Tryz.func17 h (by kernel_rfl)
def row_Filled (n0_0 n0_1 n0_2:Int) (p0_3:Option Addr) (l0_3 c0_3:Nat) (p0_4:Option Addr) (l0_4 c0_4:Nat) (n1 n2:Int) (w:World) (R:Value→World→Prop):Prop:=
 Alloc #[.int .i64 n0_0,.int .i64 n0_1,.int .i64 n0_2,.slice p0_3 l0_3 c0_3,.slice p0_4 l0_4 c0_4] 31 w fun k3 w1=>
 Rdiiiss w1 k3 fun n13_0 n13_1 n13_2 p13_3 l13_3 c13_3 p13_4 l13_4 c13_4=>
 C12 24 #[Agiiiss n13_0 n13_1 n13_2 p13_3 l13_3 c13_3 p13_4 l13_4 c13_4,.int .i64 n1,.int .i64 n2] w1 fun p16_0 l16_0 c16_0 p16_1 l16_1 c16_1 n16_2 w2=>
 Br (n16_2 != 0) (
 R (.tuple #[.slice none 0 0,.slice none 0 0,.int .i64 n16_2]) w2) (
 C9 47 #[.slice p16_0 l16_0 c16_0,.slice p16_1 l16_1 c16_1] w2 fun p26_0 l26_0 c26_0 n26_1 w3=>
 Br (n26_1 != 0) (
 R (.tuple #[.slice none 0 0,.slice none 0 0,.int .i64 n26_1]) w3) (
 R (.tuple #[.slice p26_0 l26_0 c26_0,.slice p16_1 l16_1 c16_1,.int .i64 0]) w3))
theorem row_Filled_calls {n0_0 n0_1 n0_2:Int}{p0_3:Option Addr}{l0_3 c0_3:Nat}{p0_4:Option Addr}{l0_4 c0_4:Nat}{n1 n2:Int}(h:row_Filled n0_0 n0_1 n0_2 p0_3 l0_3 c0_3 p0_4 l0_4 c0_4 n1 n2 w R):Calls Tp 18 #[Agiiiss n0_0 n0_1 n0_2 p0_3 l0_3 c0_3 p0_4 l0_4 c0_4,.int .i64 n1,.int .i64 n2] w (RT R):=fnE (pl:=.o) callable Tryz.func18 h (by kernel_rfl)
def stripe_Parts (n0_0 n0_1 n0_2:Int) (p0_3:Option Addr) (l0_3 c0_3:Nat) (p0_4:Option Addr) (l0_4 c0_4:Nat) (n1:Int) (p2:Option Addr) (l2 c2:Nat) (w:World) (R:Value→World→Prop):Prop:=
 Alloc #[.int .i64 n0_0,.int .i64 n0_1,.int .i64 n0_2,.slice p0_3 l0_3 c0_3,.slice p0_4 l0_4 c0_4] 31 w fun k3 w1=>
 Rdiiiss w1 k3 fun n26_0 n26_1 n26_2 p26_3 l26_3 c26_3 p26_4 l26_4 c26_4=>
 Calls Tp 50 #[Agiiiss n26_0 n26_1 n26_2 p26_3 l26_3 c26_3 p26_4 l26_4 c26_4,.slice p2 l2 c2] w1 fun e w2=>∃m28_0:Option Nat,∃b28_1:Bool,e=.returned (.tuple #[.map m28_0,.bool b28_1])∧
 Br (!b28_1) (
 R (.tuple #[.slice none 0 0,.int .i64 1]) w2) (
 Br (decide (n1<0)) (
 R (.tuple #[.slice none 0 0,.int .i64 70]) w2) (
 ∃n41:Int,w2.cell? ⟨k3,2,none⟩=some (.int .i64 n41)∧
 Br (decide (n1≥n41)) (
 R (.tuple #[.slice none 0 0,.int .i64 70]) w2) (
 ∃n46:Int,w2.cell? ⟨k3,0,none⟩=some (.int .i64 n46)∧
 Rdiii w2 k3 fun n49_0 n49_1 n49_2=>
 C1 51 #[Agiii n49_0 n49_1 n49_2,.int .i64 n1] w2 fun p51 l51 c51 w3=>
 Calls Tp 53 #[.map m28_0] w3 fun e_2 w4=>∃v53:Value,e_2=.returned v53∧
 C1 52 #[v53] w4 fun p54 l54 c54 w5=>
 LoopP (fun I=>I [.slice none 0 0,.int .i64 0] w5) fun K vs w6=>∃(p12:Option Addr) (l12 c12:Nat),∃n56:Int,vs=[.slice p12 l12 c12,.int .i64 n56]∧
 Br (decide (n56<(l54:Int))) (
 ∃a58:Addr,p54=some a58∧(0:Int)≤n56∧n56<(l54:Int)∧
 ∃n59:Int,w6.cell? (Addr.add a58 (n56.toNat*1))=some (.int .i64 n59)∧
 Rdiiiss w6 k3 fun n61_0 n61_1 n61_2 p61_3 l61_3 c61_3 p61_4 l61_4 c61_4=>
 C12 18 #[Agiiiss n61_0 n61_1 n61_2 p61_3 l61_3 c61_3 p61_4 l61_4 c61_4,.int .i64 n1,.int .i64 n59] w6 fun p64_0 l64_0 c64_0 p64_1 l64_1 c64_1 n64_2 w7=>
 Br (n64_2 != 0) (
 R (.tuple #[.slice none 0 0,.int .i64 n64_2]) w7) (
 ∃D:World→Prop,D w7.drew∧
 AllocM w7.drew fun k71 w8=>
 D w8∧
 (∃w9,(Instr.mapUpdate 44 (.map (some k71)) (.int .i64 (IntKind.i64.wrap (n46-2))) (.bool true)).run Tp w8=.ok () w9∧
 D w9∧
 ∃w10,(Instr.mapUpdate 44 (.map (some k71)) (.int .i64 (IntKind.i64.wrap ((IntKind.i64.wrap (n46-2))+1))) (.bool true)).run Tp w9=.ok () w10∧
 D w10∧
 LoopP (fun I_1=>I_1 [.int .i64 0] w10) fun K_1 vs_1 w11=>∃n78:Int,vs_1=[.int .i64 n78]∧
 Br (decide (n78<(l64_1:Int))) (
 ∃a80:Addr,p64_1=some a80∧(0:Int)≤n78∧n78<(l64_1:Int)∧
 ∃n81:Int,w11.cell? (Addr.add a80 (n78.toNat*1))=some (.int .i64 n81)∧
 ∃w12,(Instr.mapUpdate 44 (.map (some k71)) (.int .i64 n81) (.bool true)).run Tp w11=.ok () w12∧
 K_1 [.int .i64 (IntKind.i64.wrap (n78+1))] w12) (
 Join (fun vs_2 w13=>vs_2=[]∧
 ∃D_1:World→Prop,D_1 w13.drew∧
 ∃(p107:Option Addr) (l107 c107:Nat),(∀w,D_1 w→(Instr.sliceAt 54 (.slice p64_0 l64_0 c64_0) none (some (.int .i64 (IntKind.i64.wrap (n46-2)))) none).run Tp w=.ok (.slice p107 l107 c107) w)∧
 C0 54 #[.slice p107 l107 c107] w13.drew fun s108 w14=>
 D_1 w14∧
 ∃(p111:Option Addr) (l111 c111:Nat),(∀w,D_1 w→(Instr.sliceAt 54 (.slice p64_0 l64_0 c64_0) none (some (.int .i64 (IntKind.i64.wrap (n46-2)))) none).run Tp w=.ok (.slice p111 l111 c111) w)∧
 C0 55 #[.slice p111 l111 c111] w14 fun s112 w15=>
 D_1 w15∧
 ∃a113:Addr,p64_0=some a113∧(0:Int)≤IntKind.i64.wrap (n46-2)∧(IntKind.i64.wrap (n46-2))<(l64_0:Int)∧
 St (Addr.add a113 ((IntKind.i64.wrap (n46-2)).toNat*1)) (.string s108) w15 fun w16=>
 D_1 w16∧
 ∃a114:Addr,p64_0=some a114∧(0:Int)≤IntKind.i64.wrap ((IntKind.i64.wrap (n46-2))+1)∧(IntKind.i64.wrap ((IntKind.i64.wrap (n46-2))+1))<(l64_0:Int)∧
 St (Addr.add a114 ((IntKind.i64.wrap ((IntKind.i64.wrap (n46-2))+1)).toNat*1)) (.string s112) w16 fun w17=>
 LoopP (fun I_2=>I_2 [.slice p12 l12 c12,.int .i64 0] w17) fun K_2 vs_3 w18=>∃(p12_1:Option Addr) (l12_1 c12_1:Nat),∃n117:Int,vs_3=[.slice p12_1 l12_1 c12_1,.int .i64 n117]∧
 Br (decide (n117<(l51:Int))) (
 ∃a120:Addr,p51=some a120∧(0:Int)≤n117∧n117<(l51:Int)∧
 ∃n121:Int,w18.cell? (Addr.add a120 (n117.toNat*1))=some (.int .i64 n121)∧
 ∃b124:Bool,∃w19,(Instr.lookup 44 (.map (some k71)) (.int .i64 n117) false).run Tp w18=.ok (.bool b124) w19∧
 Br b124 (
 Rdiiiss w19 k3 fun n126_0 n126_1 n126_2 p126_3 l126_3 c126_3 p126_4 l126_4 c126_4=>
 C2 56 #[Agiiiss n126_0 n126_1 n126_2 p126_3 l126_3 c126_3 p126_4 l126_4 c126_4,.int .i64 n121] w19 fun b128 w20=>
 Br b128 (
 ∃a135:Addr,p64_0=some a135∧(0:Int)≤n117∧n117<(l64_0:Int)∧
 ∃s136:ByteArray,w20.cell? (Addr.add a135 (n117.toNat*1))=some (.string s136)∧
 Alloc #[.int .i64 n121,.int .i64 n59,.string s136] 64 w20 fun k138 w21=>
 ∃(p139:Option Addr) (l139 c139:Nat),∃w22,(builtin .append #[60,60] 60 #[false,false] #[.slice p12_1 l12_1 c12_1,.slice (some ⟨k138,0,none⟩) 1 1]).run Tp w21=.ok (.value (.slice p139 l139 c139)) w22∧
 K_2 [.slice p139 l139 c139,.int .i64 (IntKind.i64.wrap (n117+1))] w22) (
 K_2 [.slice p12_1 l12_1 c12_1,.int .i64 (IntKind.i64.wrap (n117+1))] w20)) (
 K_2 [.slice p12_1 l12_1 c12_1,.int .i64 (IntKind.i64.wrap (n117+1))] w19)) (
 K [.slice p12_1 l12_1 c12_1,.int .i64 (IntKind.i64.wrap (n56+1))] w18)) fun J=>
 ∃m87:Option Nat,∃w23,(Instr.lookup 117 (.map m28_0) (.int .i64 n59) false).run Tp w11=.ok (.map m87) w23∧
 ∃p88:Option Addr,∃w24,(Instr.range 43 (.map m87)).run Tp w23=.ok (.pointer p88) w24∧
 LoopP (fun I_3=>I_3 [] w24) fun K_3 vs_4 w25=>vs_4=[]∧
 ((∃w26,(Instr.next (.pointer p88) false 0).run Tp w25=.ok (.tuple #[.bool false]) w26∧
 Br false (
 ∃v91_0:Value,∃v91_1:Value,∃w27,(Instr.entry (.pointer p88)).run Tp w26=.ok (.tuple #[v91_0,v91_1]) w27∧
 ∃n92:Int,some v91_0=some (.int .i64 n92)∧
 ∃s93:ByteArray,some v91_1=some (.string s93)∧
 ∃a99:Addr,p64_0=some a99∧(0:Int)≤n92∧n92<(l64_0:Int)∧
 St (Addr.add a99 (n92.toNat*1)) (.string s93) w27 fun w28=>
 ∃w29,(Instr.mapUpdate 44 (.map (some k71)) (.int .i64 n92) (.bool true)).run Tp w28=.ok () w29∧
 K_3 [] w29) (
 J [] w26))∨
 ∃(v89 v89_1:Value) (w30:World),(Instr.next (.pointer p88) false 0).run Tp w25=.ok (.tuple #[.bool true,v89,v89_1]) w30∧
 Br true (
 ∃v91_0_1:Value,∃v91_1_1:Value,∃w31,(Instr.entry (.pointer p88)).run Tp w30=.ok (.tuple #[v91_0_1,v91_1_1]) w31∧
 ∃n92_1:Int,some v91_0_1=some (.int .i64 n92_1)∧
 ∃s93_1:ByteArray,some v91_1_1=some (.string s93_1)∧
 ∃a99_1:Addr,p64_0=some a99_1∧(0:Int)≤n92_1∧n92_1<(l64_0:Int)∧
 St (Addr.add a99_1 (n92_1.toNat*1)) (.string s93_1) w31 fun w32=>
 ∃w33,(Instr.mapUpdate 44 (.map (some k71)) (.int .i64 n92_1) (.bool true)).run Tp w32=.ok () w33∧
 K_3 [] w33) (
 J [] w30))))∧
 (∃w34,(Instr.mapUpdate 44 (.map (some k71)) (.int .i64 (IntKind.i64.wrap ((IntKind.i64.wrap (n46-2))+1))) (.bool true)).run Tp w8=.ok () w34∧
 D w34∧
 ∃w35,(Instr.mapUpdate 44 (.map (some k71)) (.int .i64 (IntKind.i64.wrap (n46-2))) (.bool true)).run Tp w34=.ok () w35∧
 D w35∧
 LoopP (fun I_4=>I_4 [.int .i64 0] w35) fun K_4 vs_5 w36=>∃n78_1:Int,vs_5=[.int .i64 n78_1]∧
 Br (decide (n78_1<(l64_1:Int))) (
 ∃a80_1:Addr,p64_1=some a80_1∧(0:Int)≤n78_1∧n78_1<(l64_1:Int)∧
 ∃n81_1:Int,w36.cell? (Addr.add a80_1 (n78_1.toNat*1))=some (.int .i64 n81_1)∧
 ∃w37,(Instr.mapUpdate 44 (.map (some k71)) (.int .i64 n81_1) (.bool true)).run Tp w36=.ok () w37∧
 K_4 [.int .i64 (IntKind.i64.wrap (n78_1+1))] w37) (
 Join (fun vs_6 w38=>vs_6=[]∧
 ∃D_2:World→Prop,D_2 w38.drew∧
 ∃(p107_1:Option Addr) (l107_1 c107_1:Nat),(∀w,D_2 w→(Instr.sliceAt 54 (.slice p64_0 l64_0 c64_0) none (some (.int .i64 (IntKind.i64.wrap (n46-2)))) none).run Tp w=.ok (.slice p107_1 l107_1 c107_1) w)∧
 C0 54 #[.slice p107_1 l107_1 c107_1] w38.drew fun s108_1 w39=>
 D_2 w39∧
 ∃(p111_1:Option Addr) (l111_1 c111_1:Nat),(∀w,D_2 w→(Instr.sliceAt 54 (.slice p64_0 l64_0 c64_0) none (some (.int .i64 (IntKind.i64.wrap (n46-2)))) none).run Tp w=.ok (.slice p111_1 l111_1 c111_1) w)∧
 C0 55 #[.slice p111_1 l111_1 c111_1] w39 fun s112_1 w40=>
 D_2 w40∧
 ∃a113_1:Addr,p64_0=some a113_1∧(0:Int)≤IntKind.i64.wrap (n46-2)∧(IntKind.i64.wrap (n46-2))<(l64_0:Int)∧
 St (Addr.add a113_1 ((IntKind.i64.wrap (n46-2)).toNat*1)) (.string s108_1) w40 fun w41=>
 D_2 w41∧
 ∃a114_1:Addr,p64_0=some a114_1∧(0:Int)≤IntKind.i64.wrap ((IntKind.i64.wrap (n46-2))+1)∧(IntKind.i64.wrap ((IntKind.i64.wrap (n46-2))+1))<(l64_0:Int)∧
 St (Addr.add a114_1 ((IntKind.i64.wrap ((IntKind.i64.wrap (n46-2))+1)).toNat*1)) (.string s112_1) w41 fun w42=>
 LoopP (fun I_5=>I_5 [.slice p12 l12 c12,.int .i64 0] w42) fun K_5 vs_7 w43=>∃(p12_2:Option Addr) (l12_2 c12_2:Nat),∃n117_1:Int,vs_7=[.slice p12_2 l12_2 c12_2,.int .i64 n117_1]∧
 Br (decide (n117_1<(l51:Int))) (
 ∃a120_1:Addr,p51=some a120_1∧(0:Int)≤n117_1∧n117_1<(l51:Int)∧
 ∃n121_1:Int,w43.cell? (Addr.add a120_1 (n117_1.toNat*1))=some (.int .i64 n121_1)∧
 ∃b124_1:Bool,∃w44,(Instr.lookup 44 (.map (some k71)) (.int .i64 n117_1) false).run Tp w43=.ok (.bool b124_1) w44∧
 Br b124_1 (
 Rdiiiss w44 k3 fun n126_0_1 n126_1_1 n126_2_1 p126_3_1 l126_3_1 c126_3_1 p126_4_1 l126_4_1 c126_4_1=>
 C2 56 #[Agiiiss n126_0_1 n126_1_1 n126_2_1 p126_3_1 l126_3_1 c126_3_1 p126_4_1 l126_4_1 c126_4_1,.int .i64 n121_1] w44 fun b128_1 w45=>
 Br b128_1 (
 ∃a135_1:Addr,p64_0=some a135_1∧(0:Int)≤n117_1∧n117_1<(l64_0:Int)∧
 ∃s136_1:ByteArray,w45.cell? (Addr.add a135_1 (n117_1.toNat*1))=some (.string s136_1)∧
 Alloc #[.int .i64 n121_1,.int .i64 n59,.string s136_1] 64 w45 fun k138_1 w46=>
 ∃(p139_1:Option Addr) (l139_1 c139_1:Nat),∃w47,(builtin .append #[60,60] 60 #[false,false] #[.slice p12_2 l12_2 c12_2,.slice (some ⟨k138_1,0,none⟩) 1 1]).run Tp w46=.ok (.value (.slice p139_1 l139_1 c139_1)) w47∧
 K_5 [.slice p139_1 l139_1 c139_1,.int .i64 (IntKind.i64.wrap (n117_1+1))] w47) (
 K_5 [.slice p12_2 l12_2 c12_2,.int .i64 (IntKind.i64.wrap (n117_1+1))] w45)) (
 K_5 [.slice p12_2 l12_2 c12_2,.int .i64 (IntKind.i64.wrap (n117_1+1))] w44)) (
 K [.slice p12_2 l12_2 c12_2,.int .i64 (IntKind.i64.wrap (n56+1))] w43)) fun J_1=>
 ∃m87_1:Option Nat,∃w48,(Instr.lookup 117 (.map m28_0) (.int .i64 n59) false).run Tp w36=.ok (.map m87_1) w48∧
 ∃p88_1:Option Addr,∃w49,(Instr.range 43 (.map m87_1)).run Tp w48=.ok (.pointer p88_1) w49∧
 LoopP (fun I_6=>I_6 [] w49) fun K_6 vs_8 w50=>vs_8=[]∧
 ((∃w51,(Instr.next (.pointer p88_1) false 0).run Tp w50=.ok (.tuple #[.bool false]) w51∧
 Br false (
 ∃v91_0_2:Value,∃v91_1_2:Value,∃w52,(Instr.entry (.pointer p88_1)).run Tp w51=.ok (.tuple #[v91_0_2,v91_1_2]) w52∧
 ∃n92_2:Int,some v91_0_2=some (.int .i64 n92_2)∧
 ∃s93_2:ByteArray,some v91_1_2=some (.string s93_2)∧
 ∃a99_2:Addr,p64_0=some a99_2∧(0:Int)≤n92_2∧n92_2<(l64_0:Int)∧
 St (Addr.add a99_2 (n92_2.toNat*1)) (.string s93_2) w52 fun w53=>
 ∃w54,(Instr.mapUpdate 44 (.map (some k71)) (.int .i64 n92_2) (.bool true)).run Tp w53=.ok () w54∧
 K_6 [] w54) (
 J_1 [] w51))∨
 ∃(v89_2 v89_3:Value) (w55:World),(Instr.next (.pointer p88_1) false 0).run Tp w50=.ok (.tuple #[.bool true,v89_2,v89_3]) w55∧
 Br true (
 ∃v91_0_3:Value,∃v91_1_3:Value,∃w56,(Instr.entry (.pointer p88_1)).run Tp w55=.ok (.tuple #[v91_0_3,v91_1_3]) w56∧
 ∃n92_3:Int,some v91_0_3=some (.int .i64 n92_3)∧
 ∃s93_3:ByteArray,some v91_1_3=some (.string s93_3)∧
 ∃a99_3:Addr,p64_0=some a99_3∧(0:Int)≤n92_3∧n92_3<(l64_0:Int)∧
 St (Addr.add a99_3 (n92_3.toNat*1)) (.string s93_3) w56 fun w57=>
 ∃w58,(Instr.mapUpdate 44 (.map (some k71)) (.int .i64 n92_3) (.bool true)).run Tp w57=.ok () w58∧
 K_6 [] w58) (
 J_1 [] w55)))))) (
 R (.tuple #[.slice p12 l12 c12,.int .i64 0]) w6))))
theorem stripe_Parts_calls {n0_0 n0_1 n0_2:Int}{p0_3:Option Addr}{l0_3 c0_3:Nat}{p0_4:Option Addr}{l0_4 c0_4:Nat}{n1:Int}{p2:Option Addr}{l2 c2:Nat}(h:stripe_Parts n0_0 n0_1 n0_2 p0_3 l0_3 c0_3 p0_4 l0_4 c0_4 n1 p2 l2 c2 w R):Calls Tp 21 #[Agiiiss n0_0 n0_1 n0_2 p0_3 l0_3 c0_3 p0_4 l0_4 c0_4,.int .i64 n1,.slice p2 l2 c2] w (RT R):=fnE (pl:=(.s .o (.s .o (.s .o (.s .o (.s .o (.s .o (.s (.s .o (.b (.l [(12,.one .slice),(56,.one (.int .i64))] (.s .o (.s .o (.s (.b (.s .o (.s .o (.s .o (.s .o (.s (.s .o (.b (.l [(78,.one (.int .i64))] .o))) (.j [] (.s .o (.b (.l [] .o))) (.s .o (.s .o (.b (.l [(12,.one .slice),(117,.one (.int .i64))] .o))))))))))) .o)))))) .o)))))))) callable Tryz.func21 h (by kernel_rfl)
def ring_Ring_Left (p0:Option Addr) (w:World) (R:Value→World→Prop):Prop:=
 ∃D:World→Prop,D w.drew∧
 ∃a4:Addr,p0=some a4∧
 ∃n6:Int,(∀w,D w→w.cell? (a4.add 1)=some (.int .i64 n6))∧
 ∃a8:Addr,p0=some a8∧
 ∃n10:Int,(∀w,D w→w.cell? (a8.add 3)=some (.int .u64 n10))∧
 ∃a12:Addr,p0=some a12∧
 ∃n14:Int,(∀w,D w→w.cell? (a12.add 2)=some (.int .u64 n14))∧
 R (.int .i64 (IntKind.i64.wrap (n6-(IntKind.i64.wrap (IntKind.u64.wrap ((IntKind.u64.wrap (n10-n14))-1)))))) w.drew
theorem ring_Ring_Left_calls {p0:Option Addr}(h:ring_Ring_Left p0 w R):Calls Tp 23 #[.pointer p0] w (RT R):=fnE (pl:=.o) callable Tryz.func23 h (by kernel_rfl)
def row_Read (n0_0 n0_1 n0_2:Int) (p0_3:Option Addr) (l0_3 c0_3:Nat) (p0_4:Option Addr) (l0_4 c0_4:Nat) (n1 n2:Int) (w:World) (R:Value→World→Prop):Prop:=
 Alloc #[.int .i64 n0_0,.int .i64 n0_1,.int .i64 n0_2,.slice p0_3 l0_3 c0_3,.slice p0_4 l0_4 c0_4] 31 w fun k3 w1=>
 Alloc #[.slice none 0 0] 54 w1 fun k6 w2=>
 Alloc #[.slice none 0 0] 29 w2 fun k7 w3=>
 Alloc #[.int .i64 0] 49 w3 fun k8 w4=>
 Rdiiiss w4 k3 fun n16_0 n16_1 n16_2 p16_3 l16_3 c16_3 p16_4 l16_4 c16_4=>
 C11 45 #[Agiiiss n16_0 n16_1 n16_2 p16_3 l16_3 c16_3 p16_4 l16_4 c16_4,.int .i64 n1,.int .i64 n2] w4 fun n19_0_0 n19_0_1 n19_0_2 p19_0_3 l19_0_3 c19_0_3 p19_0_4 l19_0_4 c19_0_4 n19_0_5 n19_0_6 n19_1 w5=>
 Alloc #[.int .i64 0,.int .i64 0,.int .i64 0,.slice none 0 0,.slice none 0 0,.int .i64 0,.int .i64 0] 108 w5 fun k9 w6=>
 St7 k9 (.int .i64 n19_0_0) (.int .i64 n19_0_1) (.int .i64 n19_0_2) (.slice p19_0_3 l19_0_3 c19_0_3) (.slice p19_0_4 l19_0_4 c19_0_4) (.int .i64 n19_0_5) (.int .i64 n19_0_6) w6 fun w13=>
 Br (n19_1 != 0) (
 St ⟨k6,0,none⟩ (.slice none 0 0) w13 fun w14=>
 St ⟨k7,0,none⟩ (.slice none 0 0) w14 fun w15=>
 St ⟨k8,0,none⟩ (.int .i64 n19_1) w15 fun w16=>
 ∃(pr6:Option Addr) (lr6 cr6:Nat),w16.cell? ⟨k6,0,none⟩=some (.slice pr6 lr6 cr6)∧
 ∃(pr7:Option Addr) (lr7 cr7:Nat),w16.cell? ⟨k7,0,none⟩=some (.slice pr7 lr7 cr7)∧
 ∃nr8:Int,w16.cell? ⟨k8,0,none⟩=some (.int .i64 nr8)∧
 R (.tuple #[.slice pr6 lr6 cr6,.slice pr7 lr7 cr7,.int .i64 nr8]) w16) (
 Alloc #[.slice none 0 0] 54 w13 fun k11 w17=>
 Alloc #[.slice none 0 0] 29 w17 fun k12 w18=>
 Rdiiissii w18 k9 fun n25_0 n25_1 n25_2 p25_3 l25_3 c25_3 p25_4 l25_4 c25_4 n25_5 n25_6=>
 Calls Tp 58 #[Agiiissii n25_0 n25_1 n25_2 p25_3 l25_3 c25_3 p25_4 l25_4 c25_4 n25_5 n25_6] w18 fun e_1 w19=>∃v26:Value,e_1=.returned v26∧
 RangeP Tp v26 (fun ob l args W Φ=>∃s27:ByteArray,∃n28:Int,args=[.string s27,.int .i64 n28]∧
 RoundP ob l Φ (fun K X R w20=>
 Join (fun vs w21=>vs=[]∧
 ∃(p40:Option Addr) (l40 c40:Nat),w21.cell? ⟨k11,0,none⟩=some (.slice p40 l40 c40)∧
 Alloc #[.string s27] 9 w21 fun k42 w22=>
 ∃(p43:Option Addr) (l43 c43:Nat),∃w23,(builtin .append #[54,54] 54 #[false,false] #[.slice p40 l40 c40,.slice (some ⟨k42,0,none⟩) 1 1]).run Tp w22=.ok (.value (.slice p43 l43 c43)) w23∧
 St ⟨k11,0,none⟩ (.slice p43 l43 c43) w23 fun w24=>
 K w24) fun J=>
 Br (n28==42) (
 St ⟨k6,0,none⟩ (.slice none 0 0) w20 fun w25=>
 St ⟨k7,0,none⟩ (.slice none 0 0) w25 fun w26=>
 St ⟨k8,0,none⟩ (.int .i64 n28) w26 fun w27=>
 R w27) (
 Br (n28==0) (
 J [] w20) (
 ∃(p30:Option Addr) (l30 c30:Nat),w20.cell? ⟨k12,0,none⟩=some (.slice p30 l30 c30)∧
 ∃(p31:Option Addr) (l31 c31:Nat),w20.cell? ⟨k11,0,none⟩=some (.slice p31 l31 c31)∧
 Alloc #[.int .i64 (l31:Int)] 3 w20 fun k33 w28=>
 ∃(p34:Option Addr) (l34 c34:Nat),∃w29,(builtin .append #[29,29] 29 #[false,false] #[.slice p30 l30 c30,.slice (some ⟨k33,0,none⟩) 1 1]).run Tp w28=.ok (.value (.slice p34 l34 c34)) w29∧
 St ⟨k12,0,none⟩ (.slice p34 l34 c34) w29 fun w30=>
 J [] w30))) W) []
 (fun d w31=>
 ∃D:World→Prop,D w31.drew∧
 ∃(p44:Option Addr) (l44 c44:Nat),(∀w,D w→w.cell? ⟨k11,0,none⟩=some (.slice p44 l44 c44))∧
 ∃(p45:Option Addr) (l45 c45:Nat),(∀w,D w→w.cell? ⟨k12,0,none⟩=some (.slice p45 l45 c45))∧
 St ⟨k6,0,none⟩ (.slice p44 l44 c44) w31.drew fun w32=>
 D w32∧
 St ⟨k7,0,none⟩ (.slice p45 l45 c45) w32 fun w33=>
 D w33∧
 St ⟨k8,0,none⟩ (.int .i64 0) w33 fun w34=>
 w34.heap[d]?=some (.deferred (some []))∧
 ∃(pr6_1:Option Addr) (lr6_1 cr6_1:Nat),(w34.putObj d (.deferred none)).cell? ⟨k6,0,none⟩=some (.slice pr6_1 lr6_1 cr6_1)∧
 ∃(pr7_1:Option Addr) (lr7_1 cr7_1:Nat),(w34.putObj d (.deferred none)).cell? ⟨k7,0,none⟩=some (.slice pr7_1 lr7_1 cr7_1)∧
 ∃nr8_1:Int,(w34.putObj d (.deferred none)).cell? ⟨k8,0,none⟩=some (.int .i64 nr8_1)∧
 R (.tuple #[.slice pr6_1 lr6_1 cr6_1,.slice pr7_1 lr7_1 cr7_1,.int .i64 nr8_1]) (w34.putObj d (.deferred none)))
 (fun d_1 w35=>
 w35.heap[d_1]?=some (.deferred (some []))∧
 ∃(pr6_2:Option Addr) (lr6_2 cr6_2:Nat),(w35.putObj d_1 (.deferred none)).cell? ⟨k6,0,none⟩=some (.slice pr6_2 lr6_2 cr6_2)∧
 ∃(pr7_2:Option Addr) (lr7_2 cr7_2:Nat),(w35.putObj d_1 (.deferred none)).cell? ⟨k7,0,none⟩=some (.slice pr7_2 lr7_2 cr7_2)∧
 ∃nr8_2:Int,(w35.putObj d_1 (.deferred none)).cell? ⟨k8,0,none⟩=some (.int .i64 nr8_2)∧
 R (.tuple #[.slice pr6_2 lr6_2 cr6_2,.slice pr7_2 lr7_2 cr7_2,.int .i64 nr8_2]) (w35.putObj d_1 (.deferred none))) w19)
theorem row_Read_calls {n0_0 n0_1 n0_2:Int}{p0_3:Option Addr}{l0_3 c0_3:Nat}{p0_4:Option Addr}{l0_4 c0_4:Nat}{n1 n2:Int}(h:row_Read n0_0 n0_1 n0_2 p0_3 l0_3 c0_3 p0_4 l0_4 c0_4 n1 n2 w R):Calls Tp 24 #[Agiiiss n0_0 n0_1 n0_2 p0_3 l0_3 c0_3 p0_4 l0_4 c0_4,.int .i64 n1,.int .i64 n2] w (RT R):=fnE (pl:=(.s .o (.s .o (.s .o (.s .o (.s .o (.s (.s .o (.b (.rf [(27,.one .str),(28,.one (.int .i64))] (.b (.j [] .o .o))))) .o))))))) callable Tryz.func24 h (by kernel_rfl)
def stripe_Put (n0_0 n0_1 n0_2:Int) (p0_3:Option Addr) (l0_3 c0_3:Nat) (p0_4:Option Addr) (l0_4 c0_4:Nat) (n1:Int) (p2:Option Addr) (l2 c2:Nat) (w:World) (R:Value→World→Prop):Prop:=
 Alloc #[.int .i64 n0_0,.int .i64 n0_1,.int .i64 n0_2,.slice p0_3 l0_3 c0_3,.slice p0_4 l0_4 c0_4] 31 w fun k3 w1=>
 Rdiiiss w1 k3 fun n12_0 n12_1 n12_2 p12_3 l12_3 c12_3 p12_4 l12_4 c12_4=>
 C2 64 #[Agiiiss n12_0 n12_1 n12_2 p12_3 l12_3 c12_3 p12_4 l12_4 c12_4] w1 fun b13 w2=>
 Br (!b13) (
 R (.int .i64 1) w2) (
 C2 65 #[.slice p2 l2 c2,.func (.func 63) #[] #[.pointer (some ⟨k3,0,none⟩)]] w2 fun b18 w3=>
 Br b18 (
 R (.int .i64 1) w3) (
 Br (decide (n1<0)) (
 R (.int .i64 70) w3) (
 ∃n27:Int,w3.cell? ⟨k3,2,none⟩=some (.int .i64 n27)∧
 Br (decide (n1≥n27)) (
 R (.int .i64 70) w3) (
 LoopP (fun I=>I [.int .i64 0] w3) fun K vs w4=>∃n32:Int,vs=[.int .i64 n32]∧
 Br (decide (n32<(l2:Int))) (
 ∃a34:Addr,p2=some a34∧(0:Int)≤n32∧n32<(l2:Int)∧
 ∃n35_0 n35_1:Int,∃s35_2:ByteArray,(w4.cell? (Addr.add a34 (n32.toNat*3))=some (.int .i64 n35_0)∧w4.cell? (Addr.add (Addr.add a34 (n32.toNat*3)) 1)=some (.int .i64 n35_1)∧w4.cell? (Addr.add (Addr.add a34 (n32.toNat*3)) 2)=some (.string s35_2))∧
 Alloc #[.int .i64 0,.int .i64 0,.string (ByteArray.mk #[])] 64 w4 fun k9 w5=>
 St3 k9 (.int .i64 n35_0) (.int .i64 n35_1) (.string s35_2) w5 fun w8=>
 ∃D:World→Prop,D w8.drew∧
 RDiiiss D k3 fun n36_0 n36_1 n36_2 p36_3 l36_3 c36_3 p36_4 l36_4 c36_4=>
 ∃n38:Int,(∀w,D w→w.cell? ⟨k9,0,none⟩=some (.int .i64 n38))∧
 C2 56 #[Agiiiss n36_0 n36_1 n36_2 p36_3 l36_3 c36_3 p36_4 l36_4 c36_4,.int .i64 n38] w8.drew fun b39 w9=>
 D w9∧
 Br b39 (
 ∃(p42:Option Addr) (l42 c42:Nat),(∀w,D w→w.cell? ⟨k3,3,none⟩=some (.slice p42 l42 c42))∧
 ∃n44:Int,(∀w,D w→w.cell? ⟨k9,0,none⟩=some (.int .i64 n44))∧
 ∃a45:Addr,p42=some a45∧(0:Int)≤n44∧n44<(l42:Int)∧
 ∃p46:Option Addr,(∀w,D w→w.cell? (Addr.add a45 (n44.toNat*1))=some (.pointer p46))∧
 RDiii D k3 fun n48_0 n48_1 n48_2=>
 ∃n51:Int,(∀w,D w→w.cell? ⟨k9,1,none⟩=some (.int .i64 n51))∧
 C3 67 #[Agiii n48_0 n48_1 n48_2,.int .i64 n1,.int .i64 n51] w9 fun n52 w10=>
 D w10∧
 ∃s54:ByteArray,(∀w,D w→w.cell? ⟨k9,2,none⟩=some (.string s54))∧
 C3 66 #[.pointer p46,.int .i64 n52,.string s54] w10 fun n55 w11=>
 D w11∧
 Br (n55==42) (
 R (.int .i64 42) w11) (
 K [.int .i64 (IntKind.i64.wrap (n32+1))] w11)) (
 K [.int .i64 (IntKind.i64.wrap (n32+1))] w9)) (
 Rdiiiss w4 k3 fun n59_0 n59_1 n59_2 p59_3 l59_3 c59_3 p59_4 l59_4 c59_4=>
 C3 68 #[Agiiiss n59_0 n59_1 n59_2 p59_3 l59_3 c59_3 p59_4 l59_4 c59_4] w4 fun n60 w12=>
 R (.int .i64 n60) w12)))))
theorem stripe_Put_calls {n0_0 n0_1 n0_2:Int}{p0_3:Option Addr}{l0_3 c0_3:Nat}{p0_4:Option Addr}{l0_4 c0_4:Nat}{n1:Int}{p2:Option Addr}{l2 c2:Nat}(h:stripe_Put n0_0 n0_1 n0_2 p0_3 l0_3 c0_3 p0_4 l0_4 c0_4 n1 p2 l2 c2 w R):Calls Tp 27 #[Agiiiss n0_0 n0_1 n0_2 p0_3 l0_3 c0_3 p0_4 l0_4 c0_4,.int .i64 n1,.slice p2 l2 c2] w (RT R):=fnE (pl:=(.s .o (.s .o (.s .o (.s (.s .o (.b (.l [(32,.one (.int .i64))] .o))) .o))))) callable Tryz.func27 h (by kernel_rfl)
def ring_Open (p0:Option Addr) (w:World) (R:Value→World→Prop):Prop:=
 C6 78 #[.pointer p0,.int .i64 3] w fun s17_0 n17_1 w1=>
 Br (n17_1 != 0) (
 R (.tuple #[.pointer none,.slice none 0 0,.int .i64 n17_1]) w1) (
 C3 73 #[.pointer p0] w1 fun n25 w2=>
 C3 79 #[.int .i64 n25] w2 fun n26 w3=>
 Alloc #[.pointer p0,.int .i64 n26,.int .u64 0,.int .u64 0] 128 w3 fun k28 w4=>
 C13 80 #[.string s17_0] w4 fun s31_0 b31_1 w5=>
 Br (!b31_1) (
 R (.tuple #[.pointer none,.slice none 0 0,.int .i64 200]) w5) (
 ∃a38:Addr,(some ⟨k28,0,none⟩)=some a38∧
 ∃n40:Int,w5.cell? (a38.add 1)=some (.int .i64 n40)∧
 Br (n40==0) (
 R (.tuple #[.pointer none,.slice none 0 0,.int .i64 200]) w5) (
 ∃s45:ByteArray,∃w6,(Instr.sliceAt 9 (.string s31_0) (some (.int .i64 4)) (some (.int .i64 12)) none).run Tp w5=.ok (.string s45) w6∧
 Alloc #[.int .i64 8] 3 w6 fun k46 w7=>
 C9 81 #[.string s45,.slice (some ⟨k46,0,none⟩) 1 1] w7 fun p47_0 l47_0 c47_0 n47_1 w8=>
 Br ((l47_0:Int) != 1) (
 R (.tuple #[.pointer none,.slice none 0 0,.int .i64 200]) w8) (
 ∃a55:Addr,p47_0=some a55∧(0:Int)≤0∧0<(l47_0:Int)∧
 ∃n56:Int,w8.cell? a55=some (.int .u64 n56)∧
 C0 61 #[.int .u64 n56] w8 fun s57 w9=>
 Br (!(s57.toList==s17_0.toList)) (
 R (.tuple #[.pointer none,.slice none 0 0,.int .i64 200]) w9) (
 ∃D:World→Prop,D w9.drew∧
 ∃a64:Addr,p47_0=some a64∧(0:Int)≤0∧0<(l47_0:Int)∧
 ∃n65:Int,(∀w,D w→w.cell? a64=some (.int .u64 n65))∧
 ∃a67:Addr,p47_0=some a67∧(0:Int)≤0∧0<(l47_0:Int)∧
 ∃n68:Int,(∀w,D w→w.cell? a67=some (.int .u64 n68))∧
 ∃a70:Addr,(some ⟨k28,0,none⟩)=some a70∧
 St (a70.add 2) (.int .u64 n65) w9.drew fun w10=>
 D w10∧
 ∃a72:Addr,(some ⟨k28,0,none⟩)=some a72∧
 St (a72.add 3) (.int .u64 (IntKind.u64.wrap (n68+1))) w10 fun w11=>
 Join (fun vs w12=>∃(p12:Option Addr) (l12 c12:Nat),vs=[.slice p12 l12 c12]∧
 R (.tuple #[.pointer (some ⟨k28,0,none⟩),.slice p12 l12 c12,.int .i64 0]) w12) fun J=>
 LoopP (fun I=>I [.slice none 0 0] w11) fun K vs_1 w13=>∃(p12_1:Option Addr) (l12_1 c12_1:Nat),vs_1=[.slice p12_1 l12_1 c12_1]∧
 ∃a77:Addr,(some ⟨k28,0,none⟩)=some a77∧
 ∃n79:Int,w13.cell? (a77.add 1)=some (.int .i64 n79)∧
 Br (decide ((l12_1:Int)<n79)) (
 ∃a84:Addr,(some ⟨k28,0,none⟩)=some a84∧
 ∃n86:Int,w13.cell? (a84.add 3)=some (.int .u64 n86)∧
 C14 82 #[.pointer (some ⟨k28,0,none⟩),.int .u64 n86] w13 fun n87_0_0 n87_0_1 p87_0_2 l87_0_2 c87_0_2 b87_1 w14=>
 Alloc #[.int .u64 0,.int .i64 0,.slice none 0 0] 75 w14 fun k13 w15=>
 St3 k13 (.int .u64 n87_0_0) (.int .i64 n87_0_1) (.slice p87_0_2 l87_0_2 c87_0_2) w15 fun w18=>
 Br (!b87_1) (
 J [.slice p12_1 l12_1 c12_1] w18) (
 Rduis w18 k13 fun n93_0 n93_1 p93_2 l93_2 c93_2=>
 Alloc #[.int .u64 n93_0,.int .i64 n93_1,.slice p93_2 l93_2 c93_2] 75 w18 fun k94 w19=>
 ∃(p95:Option Addr) (l95 c95:Nat),∃w20,(builtin .append #[72,72] 72 #[false,false] #[.slice p12_1 l12_1 c12_1,.slice (some ⟨k94,0,none⟩) 1 1]).run Tp w19=.ok (.value (.slice p95 l95 c95)) w20∧
 ∃a97:Addr,(some ⟨k28,0,none⟩)=some a97∧
 ∃n99:Int,w20.cell? (a97.add 3)=some (.int .u64 n99)∧
 ∃a101:Addr,(some ⟨k28,0,none⟩)=some a101∧
 St (a101.add 3) (.int .u64 (IntKind.u64.wrap (n99+1))) w20 fun w21=>
 K [.slice p95 l95 c95] w21)) (
 J [.slice p12_1 l12_1 c12_1] w13))))))
theorem ring_Open_calls {p0:Option Addr}(h:ring_Open p0 w R):Calls Tp 34 #[.pointer p0] w (RT R):=fnE (pl:=(.s .o (.s .o (.s .o (.s .o (.s .o (.s .o (.s .o (.s .o (.s .o (.s .o (.j [(12,.one .slice)] (.b (.l [(12,.one .slice)] .o)) .o)))))))))))) callable Tryz.func34 h (by kernel_rfl)
def ring_Format (p0:Option Addr) (w:World) (R:Value→World→Prop):Prop:=
 C3 73 #[.pointer p0] w fun n7 w1=>
 C3 79 #[.int .i64 n7] w1 fun n8 w2=>
 Br (n8==0) (
 R (.int .i64 1) w2) (
 LoopP (fun I=>I [.slice none 0 0,.int .i64 0] w2) fun K vs w3=>∃(p4:Option Addr) (l4 c4:Nat),∃n12:Int,vs=[.slice p4 l4 c4,.int .i64 n12]∧
 Br (decide (n12<n8)) (
 C0 93 #[.string (ByteArray.mk #[0]),.int .i64 64] w3 fun s20 w4=>
 Calls Tp 60 #[.pointer p0,.int .i64 (IntKind.i64.wrap (4+(IntKind.i64.wrap (41*n12)))),.string s20] w4 fun e_3 w5=>∃v21:Value,e_3=.returned v21∧
 LitS Tp 171 1 [(0,v21)] w5 fun k22 w6=>
 ∃(p23:Option Addr) (l23 c23:Nat),∃w7,(builtin .append #[171,171] 171 #[false,false] #[.slice p4 l4 c4,.slice (some ⟨k22,0,none⟩) 1 1]).run Tp w6=.ok (.value (.slice p23 l23 c23)) w7∧
 K [.slice p23 l23 c23,.int .i64 (IntKind.i64.wrap (n12+1))] w7) (
 C0 61 #[.int .u64 0] w3 fun s27 w8=>
 Calls Tp 60 #[.pointer p0,.int .i64 3,.string s27] w8 fun e_5 w9=>∃v28:Value,e_5=.returned v28∧
 LitS Tp 171 2 [(0,v28),(1,.func (.func 62) #[.pointer p0] #[])] w9 fun k31 w10=>
 ∃(p32:Option Addr) (l32 c32:Nat),∃w11,(builtin .append #[171,171] 171 #[false,false] #[.slice p4 l4 c4,.slice (some ⟨k31,0,none⟩) 2 2]).run Tp w10=.ok (.value (.slice p32 l32 c32)) w11∧
 C3 59 #[.slice p32 l32 c32] w11 fun n33 w12=>
 R (.int .i64 n33) w12))
theorem ring_Format_calls {p0:Option Addr}(h:ring_Format p0 w R):Calls Tp 40 #[.pointer p0] w (RT R):=fnE (pl:=(.s .o (.s .o (.s .o (.s .o (.s (.s .o (.b (.l [(4,.one .slice),(12,.one (.int .i64))] .o))) .o)))))) callable Tryz.func40 h (by kernel_rfl)
def ring_Ring_Append (p0:Option Addr) (n1:Int) (p2:Option Addr) (l2 c2:Nat) (w:World) (R:Value→World→Prop):Prop:=
 C3 23 #[.pointer p0] w fun n18 w1=>
 Br (decide (n18<1)) (
 R (.tuple #[.int .u64 0,.int .i64 130]) w1) (
 ∃a21:Addr,p0=some a21∧
 ∃n23:Int,w1.cell? (a21.add 3)=some (.int .u64 n23)∧
 C15 101 #[Aguis n23 n1 p2 l2 c2] w1 fun s29_0 p29_1 l29_1 c29_1 n29_2 w2=>
 Br (n29_2 != 0) (
 R (.tuple #[.int .u64 0,.int .i64 1]) w2) (
 C3 102 #[.pointer p0,.int .u64 n23] w2 fun n37 w3=>
 LoopP (fun I=>I [.slice none 0 0,.int .i64 0] w3) fun K vs w4=>∃(p13:Option Addr) (l13 c13:Nat),∃n40:Int,vs=[.slice p13 l13 c13,.int .i64 n40]∧
 Br (decide (n40<(l29_1:Int))) (
 ∃a43:Addr,p29_1=some a43∧(0:Int)≤n40∧n40<(l29_1:Int)∧
 ∃s44:ByteArray,w4.cell? (Addr.add a43 (n40.toNat*1))=some (.string s44)∧
 ∃a47:Addr,p0=some a47∧
 ∃p49:Option Addr,w4.cell? a47=some (.pointer p49)∧
 Calls Tp 60 #[.pointer p49,.int .i64 (IntKind.i64.wrap ((IntKind.i64.wrap (n37+1))+n40)),.string s44] w4 fun e_3 w5=>∃v55:Value,e_3=.returned v55∧
 LitS Tp 171 1 [(0,v55)] w5 fun k56 w6=>
 ∃(p57:Option Addr) (l57 c57:Nat),∃w7,(builtin .append #[171,171] 171 #[false,false] #[.slice p13 l13 c13,.slice (some ⟨k56,0,none⟩) 1 1]).run Tp w6=.ok (.value (.slice p57 l57 c57)) w7∧
 K [.slice p57 l57 c57,.int .i64 (IntKind.i64.wrap (n40+1))] w7) (
 ∃D:World→Prop,D w4.drew∧
 ∃a61:Addr,p0=some a61∧
 ∃p63:Option Addr,(∀w,D w→w.cell? a61=some (.pointer p63))∧
 ∃a66:Addr,p0=some a66∧
 ∃p68:Option Addr,(∀w,D w→w.cell? a66=some (.pointer p68))∧
 Calls Tp 60 #[.pointer p68,.int .i64 n37,.string s29_0] w4.drew fun e_4 w8=>∃v71:Value,e_4=.returned v71∧
 D w8∧
 ∃a73:Addr,p0=some a73∧
 ∃p75:Option Addr,(∀w,D w→w.cell? a73=some (.pointer p75))∧
 LitS Tp 171 3 [(0,.func (.func 62) #[.pointer p63] #[]),(1,v71),(2,.func (.func 62) #[.pointer p75] #[])] w8 fun k77 w9=>
 D w9∧
 ∃(p78:Option Addr) (l78 c78:Nat),∃w10,(builtin .append #[171,171] 171 #[false,false] #[.slice p13 l13 c13,.slice (some ⟨k77,0,none⟩) 3 3]).run Tp w9=.ok (.value (.slice p78 l78 c78)) w10∧
 D w10∧
 C3 59 #[.slice p78 l78 c78] w10 fun n79 w11=>
 D w11∧
 Br (n79 != 0) (
 R (.tuple #[.int .u64 0,.int .i64 n79]) w11) (
 ∃a84:Addr,p0=some a84∧
 ∃n86:Int,w11.cell? (a84.add 3)=some (.int .u64 n86)∧
 ∃a88:Addr,p0=some a88∧
 St (a88.add 3) (.int .u64 (IntKind.u64.wrap (n86+1))) w11 fun w12=>
 R (.tuple #[.int .u64 n23,.int .i64 0]) w12))))
theorem ring_Ring_Append_calls {p0:Option Addr}{n1:Int}{p2:Option Addr}{l2 c2:Nat}(h:ring_Ring_Append p0 n1 p2 l2 c2 w R):Calls Tp 44 #[.pointer p0,.int .i64 n1,.slice p2 l2 c2] w (RT R):=fnE (pl:=(.s .o (.s .o (.s .o (.s .o (.s .o (.s .o (.s .o (.s (.s .o (.b (.l [(13,.one .slice),(40,.one (.int .i64))] .o))) .o))))))))) callable Tryz.func44 h (by kernel_rfl)
def row_Set_at (n0_0 n0_1 n0_2:Int) (p0_3:Option Addr) (l0_3 c0_3:Nat) (p0_4:Option Addr) (l0_4 c0_4:Nat) (n1 n2:Int) (w:World) (R:Value→World→Prop):Prop:=
 Alloc #[.int .i64 n0_0,.int .i64 n0_1,.int .i64 n0_2,.slice p0_3 l0_3 c0_3,.slice p0_4 l0_4 c0_4] 31 w fun k3 w1=>
 Alloc #[.int .i64 0,.int .i64 0,.int .i64 0,.slice none 0 0,.slice none 0 0,.int .i64 0,.int .i64 0] 108 w1 fun k6 w2=>
 Rdiiiss w2 k3 fun n9_0 n9_1 n9_2 p9_3 l9_3 c9_3 p9_4 l9_4 c9_4=>
 Alloc #[.int .i64 0,.int .i64 0,.int .i64 0,.slice none 0 0,.slice none 0 0,.int .i64 0,.int .i64 0] 108 w2 fun k8 w3=>
 St7 k8 (.int .i64 n9_0) (.int .i64 n9_1) (.int .i64 n9_2) (.slice p9_3 l9_3 c9_3) (.slice p9_4 l9_4 c9_4) (.int .i64 n1) (.int .i64 n2) w3 fun w10=>
 Rdiiiss w10 k3 fun n14_0 n14_1 n14_2 p14_3 l14_3 c14_3 p14_4 l14_4 c14_4=>
 C2 64 #[Agiiiss n14_0 n14_1 n14_2 p14_3 l14_3 c14_3 p14_4 l14_4 c14_4] w10 fun b15 w11=>
 Br (!b15) (
 Rdiiissii w11 k8 fun n17_0 n17_1 n17_2 p17_3 l17_3 c17_3 p17_4 l17_4 c17_4 n17_5 n17_6=>
 St7 k6 (.int .i64 n17_0) (.int .i64 n17_1) (.int .i64 n17_2) (.slice p17_3 l17_3 c17_3) (.slice p17_4 l17_4 c17_4) (.int .i64 n17_5) (.int .i64 n17_6) w11 fun w18=>
 Rdiiissii w18 k6 fun nr6_0 nr6_1 nr6_2 pr6_3 lr6_3 cr6_3 pr6_4 lr6_4 cr6_4 nr6_5 nr6_6=>
 R (.tuple #[Agiiissii nr6_0 nr6_1 nr6_2 pr6_3 lr6_3 cr6_3 pr6_4 lr6_4 cr6_4 nr6_5 nr6_6,.int .i64 1]) w18) (
 Br (decide (n1<0)) (
 Rdiiissii w11 k8 fun n39_0 n39_1 n39_2 p39_3 l39_3 c39_3 p39_4 l39_4 c39_4 n39_5 n39_6=>
 St7 k6 (.int .i64 n39_0) (.int .i64 n39_1) (.int .i64 n39_2) (.slice p39_3 l39_3 c39_3) (.slice p39_4 l39_4 c39_4) (.int .i64 n39_5) (.int .i64 n39_6) w11 fun w25=>
 Rdiiissii w25 k6 fun nr6_0_1 nr6_1_1 nr6_2_1 pr6_3_1 lr6_3_1 cr6_3_1 pr6_4_1 lr6_4_1 cr6_4_1 nr6_5_1 nr6_6_1=>
 R (.tuple #[Agiiissii nr6_0_1 nr6_1_1 nr6_2_1 pr6_3_1 lr6_3_1 cr6_3_1 pr6_4_1 lr6_4_1 cr6_4_1 nr6_5_1 nr6_6_1,.int .i64 70]) w25) (
 ∃n25:Int,w11.cell? ⟨k3,2,none⟩=some (.int .i64 n25)∧
 Br (decide (n1≥n25)) (
 Rdiiissii w11 k8 fun n39_0_1 n39_1_1 n39_2_1 p39_3_1 l39_3_1 c39_3_1 p39_4_1 l39_4_1 c39_4_1 n39_5_1 n39_6_1=>
 St7 k6 (.int .i64 n39_0_1) (.int .i64 n39_1_1) (.int .i64 n39_2_1) (.slice p39_3_1 l39_3_1 c39_3_1) (.slice p39_4_1 l39_4_1 c39_4_1) (.int .i64 n39_5_1) (.int .i64 n39_6_1) w11 fun w32=>
 Rdiiissii w32 k6 fun nr6_0_2 nr6_1_2 nr6_2_2 pr6_3_2 lr6_3_2 cr6_3_2 pr6_4_2 lr6_4_2 cr6_4_2 nr6_5_2 nr6_6_2=>
 R (.tuple #[Agiiissii nr6_0_2 nr6_1_2 nr6_2_2 pr6_3_2 lr6_3_2 cr6_3_2 pr6_4_2 lr6_4_2 cr6_4_2 nr6_5_2 nr6_6_2,.int .i64 70]) w32) (
 Br (decide (n2<0)) (
 Rdiiissii w11 k8 fun n39_0_2 n39_1_2 n39_2_2 p39_3_2 l39_3_2 c39_3_2 p39_4_2 l39_4_2 c39_4_2 n39_5_2 n39_6_2=>
 St7 k6 (.int .i64 n39_0_2) (.int .i64 n39_1_2) (.int .i64 n39_2_2) (.slice p39_3_2 l39_3_2 c39_3_2) (.slice p39_4_2 l39_4_2 c39_4_2) (.int .i64 n39_5_2) (.int .i64 n39_6_2) w11 fun w39=>
 Rdiiissii w39 k6 fun nr6_0_3 nr6_1_3 nr6_2_3 pr6_3_3 lr6_3_3 cr6_3_3 pr6_4_3 lr6_4_3 cr6_4_3 nr6_5_3 nr6_6_3=>
 R (.tuple #[Agiiissii nr6_0_3 nr6_1_3 nr6_2_3 pr6_3_3 lr6_3_3 cr6_3_3 pr6_4_3 lr6_4_3 cr6_4_3 nr6_5_3 nr6_6_3,.int .i64 70]) w39) (
 ∃n36:Int,w11.cell? ⟨k3,1,none⟩=some (.int .i64 n36)∧
 Br (decide (n2≥n36)) (
 Rdiiissii w11 k8 fun n39_0_3 n39_1_3 n39_2_3 p39_3_3 l39_3_3 c39_3_3 p39_4_3 l39_4_3 c39_4_3 n39_5_3 n39_6_3=>
 St7 k6 (.int .i64 n39_0_3) (.int .i64 n39_1_3) (.int .i64 n39_2_3) (.slice p39_3_3 l39_3_3 c39_3_3) (.slice p39_4_3 l39_4_3 c39_4_3) (.int .i64 n39_5_3) (.int .i64 n39_6_3) w11 fun w46=>
 Rdiiissii w46 k6 fun nr6_0_4 nr6_1_4 nr6_2_4 pr6_3_4 lr6_3_4 cr6_3_4 pr6_4_4 lr6_4_4 cr6_4_4 nr6_5_4 nr6_6_4=>
 R (.tuple #[Agiiissii nr6_0_4 nr6_1_4 nr6_2_4 pr6_3_4 lr6_3_4 cr6_3_4 pr6_4_4 lr6_4_4 cr6_4_4 nr6_5_4 nr6_6_4,.int .i64 70]) w46) (
 Rdiiissii w11 k8 fun n40_0 n40_1 n40_2 p40_3 l40_3 c40_3 p40_4 l40_4 c40_4 n40_5 n40_6=>
 St7 k6 (.int .i64 n40_0) (.int .i64 n40_1) (.int .i64 n40_2) (.slice p40_3 l40_3 c40_3) (.slice p40_4 l40_4 c40_4) (.int .i64 n40_5) (.int .i64 n40_6) w11 fun w53=>
 Rdiiissii w53 k6 fun nr6_0_5 nr6_1_5 nr6_2_5 pr6_3_5 lr6_3_5 cr6_3_5 pr6_4_5 lr6_4_5 cr6_4_5 nr6_5_5 nr6_6_5=>
 R (.tuple #[Agiiissii nr6_0_5 nr6_1_5 nr6_2_5 pr6_3_5 lr6_3_5 cr6_3_5 pr6_4_5 lr6_4_5 cr6_4_5 nr6_5_5 nr6_6_5,.int .i64 0]) w53)))))
theorem row_Set_at_calls {n0_0 n0_1 n0_2:Int}{p0_3:Option Addr}{l0_3 c0_3:Nat}{p0_4:Option Addr}{l0_4 c0_4:Nat}{n1 n2:Int}(h:row_Set_at n0_0 n0_1 n0_2 p0_3 l0_3 c0_3 p0_4 l0_4 c0_4 n1 n2 w R):Calls Tp 45 #[Agiiiss n0_0 n0_1 n0_2 p0_3 l0_3 c0_3 p0_4 l0_4 c0_4,.int .i64 n1,.int .i64 n2] w (RT R):=fnE (pl:=.o) callable Tryz.func45 h (by kernel_rfl)
def row_place_sector (n0_0 n0_1 n0_2:Int) (p0_3:Option Addr) (l0_3 c0_3:Nat) (p0_4:Option Addr) (l0_4 c0_4:Nat) (n0_5 n0_6 n1:Int) (w:World) (R:Value→World→Prop):Prop:=
 Alloc #[.int .i64 n0_0,.int .i64 n0_1,.int .i64 n0_2,.slice p0_3 l0_3 c0_3,.slice p0_4 l0_4 c0_4,.int .i64 n0_5,.int .i64 n0_6] 108 w fun k2 w1=>
 Rdiiissii w1 k2 fun n7_0 n7_1 n7_2 p7_3 l7_3 c7_3 p7_4 l7_4 c7_4 n7_5 n7_6=>
 C7 103 #[Agiiissii n7_0 n7_1 n7_2 p7_3 l7_3 c7_3 p7_4 l7_4 c7_4 n7_5 n7_6,.int .i64 n1] w1 fun p9 w2=>
 Br (Option.isNone p9) (
 R (.tuple #[.string (ByteArray.mk #[]),.int .i64 41]) w2) (
 Rdiii w2 k2 fun n15_0 n15_1 n15_2=>
 ∃n17:Int,w2.cell? ⟨k2,5,none⟩=some (.int .i64 n17)∧
 ∃n19:Int,w2.cell? ⟨k2,6,none⟩=some (.int .i64 n19)∧
 C3 67 #[Agiii n15_0 n15_1 n15_2,.int .i64 n17,.int .i64 n19] w2 fun n20 w3=>
 C6 78 #[.pointer p9,.int .i64 n20] w3 fun s21_0 n21_1 w4=>
 R (.tuple #[.string s21_0,.int .i64 n21_1]) w4)
theorem row_place_sector_calls {n0_0 n0_1 n0_2:Int}{p0_3:Option Addr}{l0_3 c0_3:Nat}{p0_4:Option Addr}{l0_4 c0_4:Nat}{n0_5 n0_6 n1:Int}(h:row_place_sector n0_0 n0_1 n0_2 p0_3 l0_3 c0_3 p0_4 l0_4 c0_4 n0_5 n0_6 n1 w R):Calls Tp 46 #[Agiiissii n0_0 n0_1 n0_2 p0_3 l0_3 c0_3 p0_4 l0_4 c0_4 n0_5 n0_6,.int .i64 n1] w (RT R):=fnE (pl:=.o) callable Tryz.func46 h (by kernel_rfl)
def refill_Fill (p0:Option Addr) (l0 c0:Nat) (p1:Option Addr) (l1 c1:Nat) (w:World) (R:Value→World→Prop):Prop:=
 C3 104 #[.slice p0 l0 c0,.slice p1 l1 c1] w fun n20 w1=>
 Br (n20 != 0) (
 R (.tuple #[.slice none 0 0,.int .i64 n20]) w1) (
 Calls Tp 105 #[.slice p1 l1 c1] w1 fun e_1 w2=>∃v25:Value,e_1=.returned v25∧
 C1 52 #[v25] w2 fun p26 l26 c26 w3=>
 C1 106 #[.slice p0 l0 c0] w3 fun p28 l28 c28 w4=>
 Alloc #[.slice none 0 0,.int .i64 0] 182 w4 fun k8 w5=>
 St ⟨k8,0,none⟩ (.slice p28 l28 c28) w5 fun w6=>
 St ⟨k8,1,none⟩ (.int .i64 (IntKind.i64.wrap ((l0:Int)-2))) w6 fun w7=>
 LoopP (fun I=>I [.int .i64 0,.int .i64 0] w7) fun K vs w8=>∃n9 n35:Int,vs=[.int .i64 n9,.int .i64 n35]∧
 Br (decide (n35<(l0:Int))) (
 ∃a38:Addr,p0=some a38∧(0:Int)≤n35∧n35<(l0:Int)∧
 ∃s39:ByteArray,w8.cell? (Addr.add a38 (n35.toNat*1))=some (.string s39)∧
 C2 107 #[.slice p26 l26 c26,.int .i64 n35] w8 fun b42 w9=>
 Br (!b42) (
 K [.int .i64 (s39.size:Int),.int .i64 (IntKind.i64.wrap (n35+1))] w9) (
 K [.int .i64 n9,.int .i64 (IntKind.i64.wrap (n35+1))] w9)) (
 LoopP (fun I_1=>I_1 [.int .i64 0] w8) fun K_1 vs_1 w10=>∃n49:Int,vs_1=[.int .i64 n49]∧
 Br (decide (n49<(l26:Int))) (
 ∃a51:Addr,p26=some a51∧(0:Int)≤n49∧n49<(l26:Int)∧
 ∃n52:Int,w10.cell? (Addr.add a51 (n49.toNat*1))=some (.int .i64 n52)∧
 ∃D:World→Prop,D w10.drew∧
 ∃(p54:Option Addr) (l54 c54:Nat),(∀w,D w→w.cell? ⟨k8,0,none⟩=some (.slice p54 l54 c54))∧
 C0 93 #[.string (ByteArray.mk #[0]),.int .i64 n9] w10.drew fun s57 w11=>
 D w11∧
 ∃a58:Addr,p54=some a58∧(0:Int)≤n52∧n52<(l54:Int)∧
 St (Addr.add a58 (n52.toNat*1)) (.string s57) w11 fun w12=>
 K_1 [.int .i64 (IntKind.i64.wrap (n49+1))] w12) (
 Alloc #[.int .i64 0,.int .i64 0] 184 w10 fun k14 w13=>
 LoopP (fun I_2=>I_2 [.int .i64 0] w13) fun K_2 vs_2 w14=>∃n62:Int,vs_2=[.int .i64 n62]∧
 Br (decide (n62<(l26:Int))) (
 ∃a65:Addr,p26=some a65∧(0:Int)≤n62∧n62<(l26:Int)∧
 ∃n66:Int,w14.cell? (Addr.add a65 (n62.toNat*1))=some (.int .i64 n66)∧
 Rdsi w14 k8 fun p68_0 l68_0 c68_0 n68_1=>
 C3 108 #[.agg #[.slice p68_0 l68_0 c68_0,.int .i64 n68_1],.int .i64 n66] w14 fun n70 w15=>
 (0:Int)≤n62∧n62<(2:Int)∧
 St (Addr.add ⟨k14,0,none⟩ (n62.toNat*1)) (.int .i64 n70) w15 fun w16=>
 K_2 [.int .i64 (IntKind.i64.wrap (n62+1))] w16) (
 Join (fun vs_3 w17=>vs_3=[]∧
 ∃(p136:Option Addr) (l136 c136:Nat),w17.cell? ⟨k8,0,none⟩=some (.slice p136 l136 c136)∧
 R (.tuple #[.slice p136 l136 c136,.int .i64 0]) w17) fun J=>
 Rdii w14 k14 fun n75_0 n75_1=>
 ∃b77:Bool,∃w18,(do eqGuard .eql 184 (.tmp 75) (.tmp 76) (.agg #[.int .i64 n75_0,.int .i64 n75_1]) (.agg #[.int .i64 1,.int .i64 1]); binOp .eql 184 (.agg #[.int .i64 n75_0,.int .i64 n75_1]) (.agg #[.int .i64 1,.int .i64 1]):Sem Value).run Tp w14=.ok (.bool b77) w18∧
 Br b77 (
 ∃D_1:World→Prop,D_1 w18.drew∧
 RDsi D_1 k8 fun p102_0 l102_0 c102_0 n102_1=>
 ∃a104:Addr,p26=some a104∧(0:Int)≤0∧0<(l26:Int)∧
 ∃n105:Int,(∀w,D_1 w→w.cell? a104=some (.int .i64 n105))∧
 ∃a107:Addr,p26=some a107∧(0:Int)≤1∧1<(l26:Int)∧
 ∃n108:Int,(∀w,D_1 w→w.cell? (a107.add 1)=some (.int .i64 n108))∧
 Calls Tp 110 #[.agg #[.slice p102_0 l102_0 c102_0,.int .i64 n102_1],.int .i64 n105,.int .i64 n108] w18.drew fun e_7 w19=>e_7=.returned (.tuple #[])∧
 J [] w19) (
 Rdii w18 k14 fun n79_0 n79_1=>
 ∃b81:Bool,∃w20,(do eqGuard .eql 184 (.tmp 79) (.tmp 80) (.agg #[.int .i64 n79_0,.int .i64 n79_1]) (.agg #[.int .i64 1,.int .i64 2]); binOp .eql 184 (.agg #[.int .i64 n79_0,.int .i64 n79_1]) (.agg #[.int .i64 1,.int .i64 2]):Sem Value).run Tp w18=.ok (.bool b81) w20∧
 Br b81 (
 ∃D_2:World→Prop,D_2 w20.drew∧
 RDsi D_2 k8 fun p110_0 l110_0 c110_0 n110_1=>
 ∃a112:Addr,p26=some a112∧(0:Int)≤0∧0<(l26:Int)∧
 ∃n113:Int,(∀w,D_2 w→w.cell? a112=some (.int .i64 n113))∧
 Calls Tp 111 #[.agg #[.slice p110_0 l110_0 c110_0,.int .i64 n110_1],.int .i64 n113] w20.drew fun e_8 w21=>e_8=.returned (.tuple #[])∧
 Calls Tp 109 #[.bool true,.bool false,.pointer (some ⟨k8,0,none⟩)] w21 fun e_9 w22=>e_9=.returned (.tuple #[])∧
 J [] w22) (
 Rdii w20 k14 fun n83_0 n83_1=>
 ∃b85:Bool,∃w23,(do eqGuard .eql 184 (.tmp 83) (.tmp 84) (.agg #[.int .i64 n83_0,.int .i64 n83_1]) (.agg #[.int .i64 1,.int .i64 3]); binOp .eql 184 (.agg #[.int .i64 n83_0,.int .i64 n83_1]) (.agg #[.int .i64 1,.int .i64 3]):Sem Value).run Tp w20=.ok (.bool b85) w23∧
 Br b85 (
 ∃D_3:World→Prop,D_3 w23.drew∧
 RDsi D_3 k8 fun p117_0 l117_0 c117_0 n117_1=>
 ∃a119:Addr,p26=some a119∧(0:Int)≤0∧0<(l26:Int)∧
 ∃n120:Int,(∀w,D_3 w→w.cell? a119=some (.int .i64 n120))∧
 Calls Tp 112 #[.agg #[.slice p117_0 l117_0 c117_0,.int .i64 n117_1],.int .i64 n120] w23.drew fun e_10 w24=>e_10=.returned (.tuple #[])∧
 Calls Tp 109 #[.bool false,.bool true,.pointer (some ⟨k8,0,none⟩)] w24 fun e_11 w25=>e_11=.returned (.tuple #[])∧
 J [] w25) (
 Rdii w23 k14 fun n87_0 n87_1=>
 ∃b89:Bool,∃w26,(do eqGuard .eql 184 (.tmp 87) (.tmp 88) (.agg #[.int .i64 n87_0,.int .i64 n87_1]) (.agg #[.int .i64 1,.int .i64 0]); binOp .eql 184 (.agg #[.int .i64 n87_0,.int .i64 n87_1]) (.agg #[.int .i64 1,.int .i64 0]):Sem Value).run Tp w23=.ok (.bool b89) w26∧
 Br b89 (
 ∃D_4:World→Prop,D_4 w26.drew∧
 RDsi D_4 k8 fun p124_0 l124_0 c124_0 n124_1=>
 ∃a126:Addr,p26=some a126∧(0:Int)≤0∧0<(l26:Int)∧
 ∃n127:Int,(∀w,D_4 w→w.cell? a126=some (.int .i64 n127))∧
 Calls Tp 112 #[.agg #[.slice p124_0 l124_0 c124_0,.int .i64 n124_1],.int .i64 n127] w26.drew fun e_12 w27=>e_12=.returned (.tuple #[])∧
 J [] w27) (
 Rdii w26 k14 fun n91_0 n91_1=>
 ∃b93:Bool,∃w28,(do eqGuard .eql 184 (.tmp 91) (.tmp 92) (.agg #[.int .i64 n91_0,.int .i64 n91_1]) (.agg #[.int .i64 2,.int .i64 3]); binOp .eql 184 (.agg #[.int .i64 n91_0,.int .i64 n91_1]) (.agg #[.int .i64 2,.int .i64 3]):Sem Value).run Tp w26=.ok (.bool b93) w28∧
 Br b93 (
 Calls Tp 109 #[.bool true,.bool false,.pointer (some ⟨k8,0,none⟩)] w28 fun e_13 w29=>e_13=.returned (.tuple #[])∧
 Calls Tp 109 #[.bool false,.bool true,.pointer (some ⟨k8,0,none⟩)] w29 fun e_14 w30=>e_14=.returned (.tuple #[])∧
 J [] w30) (
 Rdii w28 k14 fun n95_0 n95_1=>
 ∃b97:Bool,∃w31,(do eqGuard .eql 184 (.tmp 95) (.tmp 96) (.agg #[.int .i64 n95_0,.int .i64 n95_1]) (.agg #[.int .i64 3,.int .i64 0]); binOp .eql 184 (.agg #[.int .i64 n95_0,.int .i64 n95_1]) (.agg #[.int .i64 3,.int .i64 0]):Sem Value).run Tp w28=.ok (.bool b97) w31∧
 Br b97 (
 Calls Tp 109 #[.bool false,.bool true,.pointer (some ⟨k8,0,none⟩)] w31 fun e_15 w32=>e_15=.returned (.tuple #[])∧
 J [] w32) (
 Rdii w31 k14 fun n99_0 n99_1=>
 ∃b101:Bool,∃w33,(do eqGuard .eql 184 (.tmp 99) (.tmp 100) (.agg #[.int .i64 n99_0,.int .i64 n99_1]) (.agg #[.int .i64 2,.int .i64 0]); binOp .eql 184 (.agg #[.int .i64 n99_0,.int .i64 n99_1]) (.agg #[.int .i64 2,.int .i64 0]):Sem Value).run Tp w31=.ok (.bool b101) w33∧
 Br b101 (
 Calls Tp 109 #[.bool true,.bool false,.pointer (some ⟨k8,0,none⟩)] w33 fun e_16 w34=>e_16=.returned (.tuple #[])∧
 J [] w34) (
 J [] w33)))))))))))
theorem refill_Fill_calls {p0:Option Addr}{l0 c0:Nat}{p1:Option Addr}{l1 c1:Nat}(h:refill_Fill p0 l0 c0 p1 l1 c1 w R):Calls Tp 47 #[.slice p0 l0 c0,.slice p1 l1 c1] w (RT R):=fnE (pl:=(.s .o (.s .o (.s .o (.s .o (.s .o (.s (.s .o (.b (.l [(9,.one (.int .i64)),(35,.one (.int .i64))] .o))) (.s (.s .o (.b (.l [(49,.one (.int .i64))] .o))) (.s .o (.s (.s .o (.b (.l [(62,.one (.int .i64))] .o))) (.s .o (.j [] .o .o)))))))))))) callable Tryz.func47 h (by kernel_rfl)
def stripe_byPlace (n0_0 n0_1 n0_2:Int) (p0_3:Option Addr) (l0_3 c0_3:Nat) (p0_4:Option Addr) (l0_4 c0_4:Nat) (p1:Option Addr) (l1 c1:Nat) (w:World) (R:Value→World→Prop):Prop:=
 Alloc #[.int .i64 n0_0,.int .i64 n0_1,.int .i64 n0_2,.slice p0_3 l0_3 c0_3,.slice p0_4 l0_4 c0_4] 31 w fun k2 w1=>
 AllocM w1 fun k11 w2=>
 Rdiiiss w2 k2 fun n12_0 n12_1 n12_2 p12_3 l12_3 c12_3 p12_4 l12_4 c12_4=>
 C2 64 #[Agiiiss n12_0 n12_1 n12_2 p12_3 l12_3 c12_3 p12_4 l12_4 c12_4] w2 fun b13 w3=>
 Br (!b13) (
 R (.tuple #[.map (some k11),.bool false]) w3) (
 LoopP (fun I=>I [.int .i64 0] w3) fun K vs w4=>∃n18:Int,vs=[.int .i64 n18]∧
 Br (decide (n18<(l1:Int))) (
 ∃a20:Addr,p1=some a20∧(0:Int)≤n18∧n18<(l1:Int)∧
 ∃n21_0 n21_1:Int,∃s21_2:ByteArray,(w4.cell? (Addr.add a20 (n18.toNat*3))=some (.int .i64 n21_0)∧w4.cell? (Addr.add (Addr.add a20 (n18.toNat*3)) 1)=some (.int .i64 n21_1)∧w4.cell? (Addr.add (Addr.add a20 (n18.toNat*3)) 2)=some (.string s21_2))∧
 Alloc #[.int .i64 0,.int .i64 0,.string (ByteArray.mk #[])] 47 w4 fun k8 w5=>
 St3 k8 (.int .i64 n21_0) (.int .i64 n21_1) (.string s21_2) w5 fun w8=>
 ∃n23:Int,w8.cell? ⟨k8,0,none⟩=some (.int .i64 n23)∧
 Br (decide (n23<0)) (
 R (.tuple #[.map (some k11),.bool false]) w8) (
 ∃n27:Int,w8.cell? ⟨k8,0,none⟩=some (.int .i64 n27)∧
 ∃n30:Int,w8.cell? ⟨k2,0,none⟩=some (.int .i64 n30)∧
 Br (decide (n27≥(IntKind.i64.wrap (n30-2)))) (
 R (.tuple #[.map (some k11),.bool false]) w8) (
 ∃n36:Int,w8.cell? ⟨k8,1,none⟩=some (.int .i64 n36)∧
 Br (decide (n36<0)) (
 R (.tuple #[.map (some k11),.bool false]) w8) (
 ∃n41:Int,w8.cell? ⟨k8,1,none⟩=some (.int .i64 n41)∧
 ∃n44:Int,w8.cell? ⟨k2,1,none⟩=some (.int .i64 n44)∧
 Br (decide (n41≥n44)) (
 R (.tuple #[.map (some k11),.bool false]) w8) (
 ∃s49:ByteArray,w8.cell? ⟨k8,2,none⟩=some (.string s49)∧
 Br ((s49.size:Int) != 64) (
 R (.tuple #[.map (some k11),.bool false]) w8) (
 Join (fun vs_1 w9=>vs_1=[]∧
 ∃n66:Int,w9.cell? ⟨k8,1,none⟩=some (.int .i64 n66)∧
 ∃m67:Option Nat,∃w10,(Instr.lookup 117 (.map (some k11)) (.int .i64 n66) false).run Tp w9=.ok (.map m67) w10∧
 ∃n69:Int,w10.cell? ⟨k8,0,none⟩=some (.int .i64 n69)∧
 ∃s70_0:ByteArray,∃b70_1:Bool,∃w11,(Instr.lookup 43 (.map m67) (.int .i64 n69) true).run Tp w10=.ok (.tuple #[.string s70_0,.bool b70_1]) w11∧
 Br b70_1 (
 R (.tuple #[.map (some k11),.bool false]) w11) (
 ∃n77:Int,w11.cell? ⟨k8,1,none⟩=some (.int .i64 n77)∧
 ∃m78:Option Nat,∃w12,(Instr.lookup 117 (.map (some k11)) (.int .i64 n77) false).run Tp w11=.ok (.map m78) w12∧
 ∃n80:Int,w12.cell? ⟨k8,0,none⟩=some (.int .i64 n80)∧
 ∃s82:ByteArray,w12.cell? ⟨k8,2,none⟩=some (.string s82)∧
 ∃w13,(Instr.mapUpdate 43 (.map m78) (.int .i64 n80) (.string s82)).run Tp w12=.ok () w13∧
 K [.int .i64 (IntKind.i64.wrap (n18+1))] w13)) fun J=>
 ∃n56:Int,w8.cell? ⟨k8,1,none⟩=some (.int .i64 n56)∧
 ∃m57:Option Nat,∃w14,(Instr.lookup 117 (.map (some k11)) (.int .i64 n56) false).run Tp w8=.ok (.map m57) w14∧
 Br (Option.isNone m57) (
 ∃n61:Int,w14.cell? ⟨k8,1,none⟩=some (.int .i64 n61)∧
 AllocM w14 fun k62 w15=>
 ∃w16,(Instr.mapUpdate 117 (.map (some k11)) (.int .i64 n61) (.map (some k62))).run Tp w15=.ok () w16∧
 J [] w16) (
 J [] w14))))))) (
 R (.tuple #[.map (some k11),.bool true]) w4))
theorem stripe_byPlace_calls {n0_0 n0_1 n0_2:Int}{p0_3:Option Addr}{l0_3 c0_3:Nat}{p0_4:Option Addr}{l0_4 c0_4:Nat}{p1:Option Addr}{l1 c1:Nat}(h:stripe_byPlace n0_0 n0_1 n0_2 p0_3 l0_3 c0_3 p0_4 l0_4 c0_4 p1 l1 c1 w R):Calls Tp 50 #[Agiiiss n0_0 n0_1 n0_2 p0_3 l0_3 c0_3 p0_4 l0_4 c0_4,.slice p1 l1 c1] w (RT R):=fnE (pl:=(.s .o (.s .o (.s .o (.s (.s .o (.b (.l [(18,.one (.int .i64))] (.s .o (.s .o (.s (.b (.s .o (.s .o (.j [] .o .o)))) .o)))))) .o))))) callable Tryz.func50 h (by kernel_rfl)
def stripe_roles (n0_0 n0_1 n0_2 n1:Int) (w:World) (R:Value→World→Prop):Prop:=
 Alloc #[.int .i64 n0_0,.int .i64 n0_1,.int .i64 n0_2] 26 w fun k2 w1=>
 ∃n8:Int,w1.cell? ⟨k2,0,none⟩=some (.int .i64 n8)∧
 ∃(p9:Option Addr) (l9 c9:Nat),∃w2,(Instr.makeSlice 29 (.int .i64 n8) (.int .i64 n8)).run Tp w1=.ok (.slice p9 l9 c9) w2∧
 LoopP (fun I=>I [.int .i64 0] w2) fun K vs w3=>∃n12:Int,vs=[.int .i64 n12]∧
 Br (decide (n12<(l9:Int))) (
 Rdiii w3 k2 fun n16_0 n16_1 n16_2=>
 C3 116 #[Agiii n16_0 n16_1 n16_2,.int .i64 n1,.int .i64 n12] w3 fun n19 w4=>
 ∃a21:Addr,p9=some a21∧(0:Int)≤n19∧n19<(l9:Int)∧
 St (Addr.add a21 (n19.toNat*1)) (.int .i64 n12) w4 fun w5=>
 K [.int .i64 (IntKind.i64.wrap (n12+1))] w5) (
 R (.slice p9 l9 c9) w3)
theorem stripe_roles_calls {n0_0 n0_1 n0_2 n1:Int}(h:stripe_roles n0_0 n0_1 n0_2 n1 w R):Calls Tp 51 #[Agiii n0_0 n0_1 n0_2,.int .i64 n1] w (RT R):=fnE (pl:=(.s .o (.s .o (.s (.s .o (.b (.l [(12,.one (.int .i64))] .o))) .o)))) callable Tryz.func51 h (by kernel_rfl)
def syndrome_P (p0:Option Addr) (l0 c0:Nat) (w:World) (R:Value→World→Prop):Prop:=
 C0 120 #[.slice p0 l0 c0] w fun s4 w1=>
 R (.string s4) w1
theorem syndrome_P_calls {p0:Option Addr}{l0 c0:Nat}(h:syndrome_P p0 l0 c0 w R):Calls Tp 54 #[.slice p0 l0 c0] w (RT R):=fnE (pl:=.o) callable Tryz.func54 h (by kernel_rfl)
def syndrome_Q (p0:Option Addr) (l0 c0:Nat) (w:World) (R:Value→World→Prop):Prop:=
 Alloc #[.slice p0 l0 c0] 54 w fun k1 w1=>
 Alloc #[.string (ByteArray.mk #[])] 9 w1 fun k3 w2=>
 Calls Tp 121 #[] w2 fun e w3=>∃v5:Value,e=.returned v5∧
 RangeP Tp v5 (fun ob l args W Φ=>∃n6:Int,args=[.int .u8 n6]∧
 RoundP ob l Φ (fun K X R w4=>
 ∃(p7:Option Addr) (l7 c7:Nat),w4.cell? ⟨k1,0,none⟩=some (.slice p7 l7 c7)∧
 Br ((l7:Int)==0) (
 X 0 w4) (
 ∃D:World→Prop,D w4.drew∧
 ∃s10:ByteArray,(∀w,D w→w.cell? ⟨k3,0,none⟩=some (.string s10))∧
 ∃(p11:Option Addr) (l11 c11:Nat),(∀w,D w→w.cell? ⟨k1,0,none⟩=some (.slice p11 l11 c11))∧
 ∃a12:Addr,p11=some a12∧(0:Int)≤0∧0<(l11:Int)∧
 ∃s13:ByteArray,(∀w,D w→w.cell? a12=some (.string s13))∧
 C0 122 #[.string s13,.int .u8 n6] w4.drew fun s15 w5=>
 D w5∧
 Alloc #[.string s10,.string s15] 9 w5 fun k16 w6=>
 D w6∧
 C0 120 #[.slice (some ⟨k16,0,none⟩) 2 2] w6 fun s17 w7=>
 D w7∧
 St ⟨k3,0,none⟩ (.string s17) w7 fun w8=>
 ∃(p18:Option Addr) (l18 c18:Nat),w8.cell? ⟨k1,0,none⟩=some (.slice p18 l18 c18)∧
 ∃(p19:Option Addr) (l19 c19:Nat),∃w9,(Instr.sliceAt 54 (.slice p18 l18 c18) (some (.int .i64 1)) none none).run Tp w8=.ok (.slice p19 l19 c19) w9∧
 St ⟨k1,0,none⟩ (.slice p19 l19 c19) w9 fun w10=>
 K w10)) W) [(0,fun d w11=>
 ∃s20:ByteArray,w11.cell? ⟨k3,0,none⟩=some (.string s20)∧
 w11.heap[d]?=some (.deferred (some []))∧
 R (.string s20) (w11.putObj d (.deferred none)))]
 (fun d_1 w12=>
 ∃s20_1:ByteArray,w12.cell? ⟨k3,0,none⟩=some (.string s20_1)∧
 w12.heap[d_1]?=some (.deferred (some []))∧
 R (.string s20_1) (w12.putObj d_1 (.deferred none)))
 (fun d_2 w13=>
 w13.heap[d_2]?=some (.deferred (some []))∧
 R (.string (ByteArray.mk #[])) (w13.putObj d_2 (.deferred none))) w3
theorem syndrome_Q_calls {p0:Option Addr}{l0 c0:Nat}(h:syndrome_Q p0 l0 c0 w R):Calls Tp 55 #[.slice p0 l0 c0] w (RT R):=fnE (pl:=(.s .o (.s .o (.s (.s .o (.b (.rf [(6,.one (.int .u8))] .o))) .o)))) callable Tryz.func55 h (by kernel_rfl)
def stripe_there (n0_0 n0_1 n0_2:Int) (p0_3:Option Addr) (l0_3 c0_3:Nat) (p0_4:Option Addr) (l0_4 c0_4:Nat) (n1:Int) (w:World) (R:Value→World→Prop):Prop:=
 Alloc #[.int .i64 n0_0,.int .i64 n0_1,.int .i64 n0_2,.slice p0_3 l0_3 c0_3,.slice p0_4 l0_4 c0_4] 31 w fun k2 w1=>
 ∃(p6:Option Addr) (l6 c6:Nat),w1.cell? ⟨k2,3,none⟩=some (.slice p6 l6 c6)∧
 ∃a8:Addr,p6=some a8∧(0:Int)≤n1∧n1<(l6:Int)∧
 ∃p9:Option Addr,w1.cell? (Addr.add a8 (n1.toNat*1))=some (.pointer p9)∧
 Br (!(Option.isNone p9)) (
 ∃(p13:Option Addr) (l13 c13:Nat),w1.cell? ⟨k2,3,none⟩=some (.slice p13 l13 c13)∧
 ∃a15:Addr,p13=some a15∧(0:Int)≤n1∧n1<(l13:Int)∧
 ∃p16:Option Addr,w1.cell? (Addr.add a15 (n1.toNat*1))=some (.pointer p16)∧
 C2 123 #[.pointer p16] w1 fun b17 w2=>
 R (.bool (!b17)) w2) (
 R (.bool false) w1)
theorem stripe_there_calls {n0_0 n0_1 n0_2:Int}{p0_3:Option Addr}{l0_3 c0_3:Nat}{p0_4:Option Addr}{l0_4 c0_4:Nat}{n1:Int}(h:stripe_there n0_0 n0_1 n0_2 p0_3 l0_3 c0_3 p0_4 l0_4 c0_4 n1 w R):Calls Tp 56 #[Agiiiss n0_0 n0_1 n0_2 p0_3 l0_3 c0_3 p0_4 l0_4 c0_4,.int .i64 n1] w (RT R):=fnE (pl:=.o) callable Tryz.func56 h (by kernel_rfl)
def row_place_sectors (n0_0 n0_1 n0_2:Int) (p0_3:Option Addr) (l0_3 c0_3:Nat) (p0_4:Option Addr) (l0_4 c0_4:Nat) (n0_5 n0_6:Int) (w:World) (R:Value→World→Prop):Prop:=
 Alloc #[.int .i64 n0_0,.int .i64 n0_1,.int .i64 n0_2,.slice p0_3 l0_3 c0_3,.slice p0_4 l0_4 c0_4,.int .i64 n0_5,.int .i64 n0_6] 108 w fun k1 w1=>
 R (.func (.func 127) #[] #[.pointer (some ⟨k1,0,none⟩)]) w1
theorem row_place_sectors_calls {n0_0 n0_1 n0_2:Int}{p0_3:Option Addr}{l0_3 c0_3:Nat}{p0_4:Option Addr}{l0_4 c0_4:Nat}{n0_5 n0_6:Int}(h:row_place_sectors n0_0 n0_1 n0_2 p0_3 l0_3 c0_3 p0_4 l0_4 c0_4 n0_5 n0_6 w R):Calls Tp 58 #[Agiiissii n0_0 n0_1 n0_2 p0_3 l0_3 c0_3 p0_4 l0_4 c0_4 n0_5 n0_6] w (RT R):=fnE (pl:=.o) callable Tryz.func58 h (by kernel_rfl)
def ring_steps (p0:Option Addr) (l0 c0:Nat) (w:World) (R:Value→World→Prop):Prop:=
 LoopP (fun I=>I [.int .i64 0] w) fun K vs w1=>∃n8:Int,vs=[.int .i64 n8]∧
 Br (decide (n8<(l0:Int))) (
 ∃a10:Addr,p0=some a10∧(0:Int)≤n8∧n8<(l0:Int)∧
 ∃v11:Value,w1.cell? (Addr.add a10 (n8.toNat*1))=some (v11)∧
 CallF Tp v11 [] w1 fun e w2=>∃n13:Int,e=.returned (.int .i64 n13)∧
 Br (n13 != 0) (
 R (.int .i64 n13) w2) (
 K [.int .i64 (IntKind.i64.wrap (n8+1))] w2)) (
 R (.int .i64 0) w1)
theorem ring_steps_calls {p0:Option Addr}{l0 c0:Nat}(h:ring_steps p0 l0 c0 w R):Calls Tp 59 #[.slice p0 l0 c0] w (RT R):=fnE (pl:=(.s .o (.s (.s .o (.b (.l [(8,.one (.int .i64))] .o))) .o))) callable Tryz.func59 h (by kernel_rfl)
def ring_written (p0:Option Addr) (n1:Int) (s2:ByteArray) (w:World) (R:Value→World→Prop):Prop:=
 Alloc #[.pointer p0] 35 w fun k3 w1=>
 Alloc #[.int .i64 n1] 3 w1 fun k4 w2=>
 Alloc #[.string s2] 9 w2 fun k5 w3=>
 R (.func (.func 128) #[] #[.pointer (some ⟨k3,0,none⟩),.pointer (some ⟨k4,0,none⟩),.pointer (some ⟨k5,0,none⟩)]) w3
theorem ring_written_calls {p0:Option Addr}{n1:Int}{s2:ByteArray}(h:ring_written p0 n1 s2 w R):Calls Tp 60 #[.pointer p0,.int .i64 n1,.string s2] w (RT R):=fnE (pl:=.o) callable Tryz.func60 h (by kernel_rfl)
def ring_mark (n0:Int) (w:World) (R:Value→World→Prop):Prop:=
 Alloc #[.int .u64 n0] 70 w fun k9 w1=>
 Alloc #[.int .i64 8] 3 w1 fun k10 w2=>
 C6 129 #[.slice (some ⟨k9,0,none⟩) 1 1,.slice (some ⟨k10,0,none⟩) 1 1] w2 fun s11_0 n11_1 w3=>
 (((ByteArray.mk #[82,86,84,77]).size+s11_0.size:Nat):Int)≤9223372036854775807∧
 C13 130 #[.string ((ByteArray.mk #[82,86,84,77])++s11_0),.int .i64 64] w3 fun s17_0 b17_1 w4=>
 R (.string s17_0) w4
theorem ring_mark_calls {n0:Int}(h:ring_mark n0 w R):Calls Tp 61 #[.int .u64 n0] w (RT R):=fnE (pl:=.o) callable Tryz.func61 h (by kernel_rfl)
def stripe_Put_1 (n0_0 n0_1:Int) (s0_2:ByteArray) (k1:Addr) (w:World) (R:Value→World→Prop):Prop:=
 Alloc #[.int .i64 n0_0,.int .i64 n0_1,.string s0_2] 64 w fun k2 w1=>
 ∃n5:Int,w1.cell? ⟨k2,0,none⟩=some (.int .i64 n5)∧
 Br (decide (n5<0)) (
 R (.bool true) w1) (
 ∃n9:Int,w1.cell? ⟨k2,0,none⟩=some (.int .i64 n9)∧
 ∃n12:Int,w1.cell? k1=some (.int .i64 n12)∧
 Br (decide (n9≥n12)) (
 R (.bool true) w1) (
 ∃n17:Int,w1.cell? ⟨k2,1,none⟩=some (.int .i64 n17)∧
 Br (decide (n17<0)) (
 R (.bool true) w1) (
 ∃n22:Int,w1.cell? ⟨k2,1,none⟩=some (.int .i64 n22)∧
 ∃n25:Int,w1.cell? (k1.add 1)=some (.int .i64 n25)∧
 Br (decide (n22≥n25)) (
 R (.bool true) w1) (
 ∃s30:ByteArray,w1.cell? ⟨k2,2,none⟩=some (.string s30)∧
 R (.bool ((s30.size:Int) != 64)) w1))))
theorem stripe_Put_1_calls {n0_0 n0_1:Int}{s0_2:ByteArray}{k1:Addr}(h:stripe_Put_1 n0_0 n0_1 s0_2 k1 w R):Calls Tp 63 #[Agiit n0_0 n0_1 s0_2,.pointer (some k1)] w (RT R):=fnE (pl:=.o) callable Tryz.func63 h (by kernel_rfl)
def row_May (n0_0 n0_1 n0_2:Int) (p0_3:Option Addr) (l0_3 c0_3:Nat) (p0_4:Option Addr) (l0_4 c0_4:Nat) (w:World) (R:Value→World→Prop):Prop:=
 Alloc #[.int .i64 n0_0,.int .i64 n0_1,.int .i64 n0_2,.slice p0_3 l0_3 c0_3,.slice p0_4 l0_4 c0_4] 31 w fun k1 w1=>
 Rdiii w1 k1 fun n6_0 n6_1 n6_2=>
 C3 135 #[Agiii n6_0 n6_1 n6_2] w1 fun n7 w2=>
 Br (n7==0) (
 ∃(p11:Option Addr) (l11 c11:Nat),w2.cell? ⟨k1,3,none⟩=some (.slice p11 l11 c11)∧
 ∃n15:Int,w2.cell? ⟨k1,0,none⟩=some (.int .i64 n15)∧
 Br ((l11:Int)==n15) (
 ∃(p20:Option Addr) (l20 c20:Nat),w2.cell? ⟨k1,4,none⟩=some (.slice p20 l20 c20)∧
 ∃n24:Int,w2.cell? ⟨k1,0,none⟩=some (.int .i64 n24)∧
 Br ((l20:Int)==n24) (
 ∃(p29:Option Addr) (l29 c29:Nat),w2.cell? ⟨k1,3,none⟩=some (.slice p29 l29 c29)∧
 C2 136 #[.slice p29 l29 c29,.func (.func 133) #[] #[.pointer (some ⟨k1,0,none⟩)]] w2 fun b31 w3=>
 R (.bool (!b31)) w3) (
 R (.bool false) w2)) (
 R (.bool false) w2)) (
 R (.bool false) w2)
theorem row_May_calls {n0_0 n0_1 n0_2:Int}{p0_3:Option Addr}{l0_3 c0_3:Nat}{p0_4:Option Addr}{l0_4 c0_4:Nat}(h:row_May n0_0 n0_1 n0_2 p0_3 l0_3 c0_3 p0_4 l0_4 c0_4 w R):Calls Tp 64 #[Agiiiss n0_0 n0_1 n0_2 p0_3 l0_3 c0_3 p0_4 l0_4 c0_4] w (RT R):=fnE (pl:=.o) callable Tryz.func64 h (by kernel_rfl)
def slices_ContainsFunc_record_Part_record_Part (p0:Option Addr) (l0 c0:Nat) (v1:Value) (w:World) (R:Value→World→Prop):Prop:=
 C3 137 #[.slice p0 l0 c0,v1] w fun n7 w1=>
 R (.bool (decide (n7≥0))) w1
theorem slices_ContainsFunc_record_Part_record_Part_calls {p0:Option Addr}{l0 c0:Nat}{v1:Value}(h:slices_ContainsFunc_record_Part_record_Part p0 l0 c0 v1 w R):Calls Tp 65 #[.slice p0 l0 c0,v1] w (RT R):=fnE (pl:=.o) callable Tryz.func65 h (by kernel_rfl)
def layout_Sector (n0_0 n0_1 n0_2 n1 n2:Int) (w:World) (R:Value→World→Prop):Prop:=
 Alloc #[.int .i64 n0_0,.int .i64 n0_1,.int .i64 n0_2] 26 w fun k3 w1=>
 Rdiii w1 k3 fun n8_0 n8_1 n8_2=>
 Alloc #[.int .i64 0,.int .i64 0,.int .i64 0] 211 w1 fun k7 w2=>
 St3 k7 (.int .i64 n8_0) (.int .i64 n8_1) (.int .i64 n8_2) w2 fun w5=>
 Rdiii w5 k7 fun n11_0 n11_1 n11_2=>
 ∃b13:Bool,∃w6,(do eqGuard .eql 26 (.tmp 11) (.tmp 12) ((Agiii n11_0 n11_1 n11_2)) ((Agiii 0 0 0)); binOp .eql 26 ((Agiii n11_0 n11_1 n11_2)) ((Agiii 0 0 0)):Sem Value).run Tp w5=.ok (.bool b13) w6∧
 Br b13 (
 R (.int .i64 0) w6) (
 Rdiii w6 k7 fun n15_0 n15_1 n15_2=>
 ∃n20:Int,w6.cell? ⟨k7,1,none⟩=some (.int .i64 n20)∧
 C2 140 #[Agiii n15_0 n15_1 n15_2,.int .i64 n1,.int .i64 n2,.int .i64 n20] w6 fun b21 w7=>
 Br (!b21) (
 R (.int .i64 0) w7) (
 ∃n26:Int,w7.cell? ⟨k7,1,none⟩=some (.int .i64 n26)∧
 R (.int .i64 (IntKind.i64.wrap ((IntKind.i64.wrap (4+(IntKind.i64.wrap (n26*n1))))+n2))) w7))
theorem layout_Sector_calls {n0_0 n0_1 n0_2 n1 n2:Int}(h:layout_Sector n0_0 n0_1 n0_2 n1 n2 w R):Calls Tp 67 #[Agiii n0_0 n0_1 n0_2,.int .i64 n1,.int .i64 n2] w (RT R):=fnE (pl:=.o) callable Tryz.func67 h (by kernel_rfl)
def row_Flush (n0_0 n0_1 n0_2:Int) (p0_3:Option Addr) (l0_3 c0_3:Nat) (p0_4:Option Addr) (l0_4 c0_4:Nat) (w:World) (R:Value→World→Prop):Prop:=
 Alloc #[.int .i64 n0_0,.int .i64 n0_1,.int .i64 n0_2,.slice p0_3 l0_3 c0_3,.slice p0_4 l0_4 c0_4] 31 w fun k1 w1=>
 Rdiiiss w1 k1 fun n6_0 n6_1 n6_2 p6_3 l6_3 c6_3 p6_4 l6_4 c6_4=>
 C2 64 #[Agiiiss n6_0 n6_1 n6_2 p6_3 l6_3 c6_3 p6_4 l6_4 c6_4] w1 fun b7 w2=>
 Br (!b7) (
 R (.int .i64 1) w2) (
 ∃(p10:Option Addr) (l10 c10:Nat),w2.cell? ⟨k1,3,none⟩=some (.slice p10 l10 c10)∧
 LoopP (fun I=>I [.bool false,.int .i64 0] w2) fun K vs w3=>∃b3:Bool,∃n12:Int,vs=[.bool b3,.int .i64 n12]∧
 Br (decide (n12<(l10:Int))) (
 Rdiiiss w3 k1 fun n15_0 n15_1 n15_2 p15_3 l15_3 c15_3 p15_4 l15_4 c15_4=>
 C7 141 #[Agiiiss n15_0 n15_1 n15_2 p15_3 l15_3 c15_3 p15_4 l15_4 c15_4,.int .i64 n12] w3 fun p17 w4=>
 Br (!(Option.isNone p17)) (
 C3 62 #[.pointer p17] w4 fun n22 w5=>
 Br (n22==42) (
 K [.bool true,.int .i64 (IntKind.i64.wrap (n12+1))] w5) (
 K [.bool b3,.int .i64 (IntKind.i64.wrap (n12+1))] w5)) (
 K [.bool b3,.int .i64 (IntKind.i64.wrap (n12+1))] w4)) (
 Br b3 (
 R (.int .i64 42) w3) (
 R (.int .i64 0) w3)))
theorem row_Flush_calls {n0_0 n0_1 n0_2:Int}{p0_3:Option Addr}{l0_3 c0_3:Nat}{p0_4:Option Addr}{l0_4 c0_4:Nat}(h:row_Flush n0_0 n0_1 n0_2 p0_3 l0_3 c0_3 p0_4 l0_4 c0_4 w R):Calls Tp 68 #[Agiiiss n0_0 n0_1 n0_2 p0_3 l0_3 c0_3 p0_4 l0_4 c0_4] w (RT R):=fnE (pl:=(.s .o (.s .o (.s .o (.s (.s .o (.b (.l [(3,.one .bool),(12,.one (.int .i64))] .o))) .o))))) callable Tryz.func68 h (by kernel_rfl)
def ring_Slots (n0:Int) (w:World) (R:Value→World→Prop):Prop:=
 ∃n5:Int,∃w1,(builtin .max #[3,3] 3 #[false,true] #[.int .i64 (IntKind.i64.wrap (n0-4)),.int .i64 0]).run Tp w=.ok (.value (.int .i64 n5)) w1∧
 R (.int .i64 (IntKind.i64.wrap (Int.tdiv n5 41))) w1
theorem ring_Slots_calls {n0:Int}(h:ring_Slots n0 w R):Calls Tp 79 #[.int .i64 n0] w (RT R):=fnE (pl:=.o) callable Tryz.func79 h (by kernel_rfl)
def crc_Open (s0:ByteArray) (w:World) (R:Value→World→Prop):Prop:=
 ∃D:World→Prop,D w.drew∧
 Br (decide ((IntKind.i64.wrap ((s0.size:Int)-4))<0)) (
 R (.tuple #[.string (ByteArray.mk #[]),.bool false]) w.drew) (
 ∃s13:ByteArray,(∀w,D w→(Instr.sliceAt 9 (.string s0) none (some (.int .i64 (IntKind.i64.wrap ((s0.size:Int)-4)))) none).run Tp w=.ok (.string s13) w)∧
 C16 149 #[.string s13] w.drew fun n14 w1=>
 D w1∧
 C1 148 #[.int .u32 n14] w1 fun p15 l15 c15 w2=>
 D w2∧
 ∃s16:ByteArray,(∀x0,x0=w2→(convert 86 9 (.slice p15 l15 c15)).run Tp x0=.ok (.string s16) x0)∧
 ∃s19:ByteArray,(∀w,D w→(Instr.sliceAt 9 (.string s0) (some (.int .i64 (IntKind.i64.wrap ((s0.size:Int)-4)))) none none).run Tp w=.ok (.string s19) w)∧
 Br (!(s16.toList==s19.toList)) (
 R (.tuple #[.string (ByteArray.mk #[]),.bool false]) w2) (
 ∃s24:ByteArray,∃w3,(Instr.sliceAt 9 (.string s0) none (some (.int .i64 (IntKind.i64.wrap ((s0.size:Int)-4)))) none).run Tp w2=.ok (.string s24) w3∧
 R (.tuple #[.string s24,.bool true]) w3))
theorem crc_Open_calls {s0:ByteArray}(h:crc_Open s0 w R):Calls Tp 80 #[.string s0] w (RT R):=fnE (pl:=.o) callable Tryz.func80 h (by kernel_rfl)
def pack_Decode (s0:ByteArray) (p1:Option Addr) (l1 c1:Nat) (w:World) (R:Value→World→Prop):Prop:=
 Alloc #[.string s0] 9 w fun k2 w1=>
 C17 150 #[.slice p1 l1 c1] w1 fun n13_0 n13_1 w2=>
 Br (n13_1 != 0) (
 R (.tuple #[.slice none 0 0,.int .i64 n13_1]) w2) (
 ∃s21:ByteArray,w2.cell? ⟨k2,0,none⟩=some (.string s21)∧
 Br ((s21.size:Int) != n13_0) (
 R (.tuple #[.slice none 0 0,.int .i64 31]) w2) (
 ∃(p27:Option Addr) (l27 c27:Nat),∃w3,(Instr.makeSlice 155 (.int .i64 (l1:Int)) (.int .i64 (l1:Int))).run Tp w2=.ok (.slice p27 l27 c27) w3∧
 Alloc #[.slice none 0 0] 155 w3 fun k8 w4=>
 St ⟨k8,0,none⟩ (.slice p27 l27 c27) w4 fun w5=>
 Calls Tp 151 #[.slice p1 l1 c1] w5 fun e_1 w6=>∃v29:Value,e_1=.returned v29∧
 RangeP Tp v29 (fun ob l args W Φ=>∃n30 n31:Int,args=[.int .i64 n30,.int .i64 n31]∧
 RoundP ob l Φ (fun K X R w7=>
 ∃D:World→Prop,D w7.drew∧
 ∃(p32:Option Addr) (l32 c32:Nat),(∀w,D w→w.cell? ⟨k8,0,none⟩=some (.slice p32 l32 c32))∧
 ∃a34:Addr,p32=some a34∧(0:Int)≤n30∧n30<(l32:Int)∧
 ∃n35:Int,(∀w,D w→w.cell? (Addr.add a34 (n30.toNat*1))=some (.int .u64 n35))∧
 ∃s36:ByteArray,(∀w,D w→w.cell? ⟨k2,0,none⟩=some (.string s36))∧
 ∃n37:Int,(∀w,D w→(Instr.index 9 (.string s36) (.int .i64 0)).run Tp w=.ok (.int .u8 n37) w)∧
 (0:Int)≤n31∧
 ∃a42:Addr,p32=some a42∧(0:Int)≤n30∧n30<(l32:Int)∧
 St (Addr.add a42 (n30.toNat*1)) (.int .u64 (bits2 .or .u64 n35 (IntKind.u64.wrap ((IntKind.u64.wrap n37)*2 ^ (min n31.toNat 64))))) w7.drew fun w8=>
 ∃s43:ByteArray,w8.cell? ⟨k2,0,none⟩=some (.string s43)∧
 ∃s44:ByteArray,∃w9,(Instr.sliceAt 9 (.string s43) (some (.int .i64 1)) none none).run Tp w8=.ok (.string s44) w9∧
 St ⟨k2,0,none⟩ (.string s44) w9 fun w10=>
 K w10) W) []
 (fun d w11=>
 ∃(p45:Option Addr) (l45 c45:Nat),w11.cell? ⟨k8,0,none⟩=some (.slice p45 l45 c45)∧
 w11.heap[d]?=some (.deferred (some []))∧
 R (.tuple #[.slice p45 l45 c45,.int .i64 0]) (w11.putObj d (.deferred none)))
 (fun d_1 w12=>
 w12.heap[d_1]?=some (.deferred (some []))∧
 R (.tuple #[.slice none 0 0,.int .i64 0]) (w12.putObj d_1 (.deferred none))) w6))
theorem pack_Decode_calls {s0:ByteArray}{p1:Option Addr}{l1 c1:Nat}(h:pack_Decode s0 p1 l1 c1 w R):Calls Tp 81 #[.string s0,.slice p1 l1 c1] w (RT R):=fnE (pl:=(.s .o (.s .o (.s .o (.s .o (.s (.s .o (.b (.rf [(30,.one (.int .i64)),(31,.one (.int .i64))] .o))) .o)))))) callable Tryz.func81 h (by kernel_rfl)
def ring_Ring_record (p0:Option Addr) (n1:Int) (w:World) (R:Value→World→Prop):Prop:=
 Alloc #[.int .u64 0,.int .i64 0,.slice none 0 0] 75 w fun k4 w1=>
 C3 102 #[.pointer p0,.int .u64 n1] w1 fun n18 w2=>
 ∃a21:Addr,p0=some a21∧
 ∃p23:Option Addr,w2.cell? a21=some (.pointer p23)∧
 C6 78 #[.pointer p23,.int .i64 n18] w2 fun s25_0 n25_1 w3=>
 Br (n25_1 != 0) (
 St3 k4 (.int .u64 0) (.int .i64 0) (.slice none 0 0) w3 fun w6=>
 Rduis w6 k4 fun nr4_0 nr4_1 pr4_2 lr4_2 cr4_2=>
 R (.tuple #[Aguis nr4_0 nr4_1 pr4_2 lr4_2 cr4_2,.bool false]) w6) (
 C18 152 #[.string s25_0] w3 fun n33_0_0 n33_0_1 p33_0_2 l33_0_2 c33_0_2 n33_1 n33_2 w7=>
 Alloc #[.int .u64 0,.int .i64 0,.slice none 0 0] 75 w7 fun k9 w8=>
 St3 k9 (.int .u64 n33_0_0) (.int .i64 n33_0_1) (.slice p33_0_2 l33_0_2 c33_0_2) w8 fun w11=>
 Br (n33_2 != 0) (
 St3 k4 (.int .u64 0) (.int .i64 0) (.slice none 0 0) w11 fun w14=>
 Rduis w14 k4 fun nr4_0_1 nr4_1_1 pr4_2_1 lr4_2_1 cr4_2_1=>
 R (.tuple #[Aguis nr4_0_1 nr4_1_1 pr4_2_1 lr4_2_1 cr4_2_1,.bool false]) w14) (
 ∃n41:Int,w11.cell? ⟨k9,0,none⟩=some (.int .u64 n41)∧
 Br (n41 != n1) (
 St3 k4 (.int .u64 0) (.int .i64 0) (.slice none 0 0) w11 fun w17=>
 Rduis w17 k4 fun nr4_0_2 nr4_1_2 pr4_2_2 lr4_2_2 cr4_2_2=>
 R (.tuple #[Aguis nr4_0_2 nr4_1_2 pr4_2_2 lr4_2_2 cr4_2_2,.bool false]) w17) (
 ∃(p47:Option Addr) (l47 c47:Nat),w11.cell? ⟨k9,2,none⟩=some (.slice p47 l47 c47)∧
 LoopP (fun I=>I [.slice none 0 0,.int .i64 0] w11) fun K vs w18=>∃(p11:Option Addr) (l11 c11:Nat),∃n49:Int,vs=[.slice p11 l11 c11,.int .i64 n49]∧
 Br (decide (n49<(l47:Int))) (
 ∃a54:Addr,p0=some a54∧
 ∃p56:Option Addr,w18.cell? a54=some (.pointer p56)∧
 C6 78 #[.pointer p56,.int .i64 (IntKind.i64.wrap ((IntKind.i64.wrap (n18+1))+n49))] w18 fun s61_0 n61_1 w19=>
 Br (n61_1 != 0) (
 St3 k4 (.int .u64 0) (.int .i64 0) (.slice none 0 0) w19 fun w22=>
 Rduis w22 k4 fun nr4_0_3 nr4_1_3 pr4_2_3 lr4_2_3 cr4_2_3=>
 R (.tuple #[Aguis nr4_0_3 nr4_1_3 pr4_2_3 lr4_2_3 cr4_2_3,.bool false]) w22) (
 Alloc #[.string s61_0] 9 w19 fun k69 w23=>
 ∃(p70:Option Addr) (l70 c70:Nat),∃w24,(builtin .append #[54,54] 54 #[false,false] #[.slice p11 l11 c11,.slice (some ⟨k69,0,none⟩) 1 1]).run Tp w23=.ok (.value (.slice p70 l70 c70)) w24∧
 K [.slice p70 l70 c70,.int .i64 (IntKind.i64.wrap (n49+1))] w24)) (
 C19 153 #[.string s25_0,.slice p11 l11 c11] w18 fun n75_0_0 n75_0_1 p75_0_2 l75_0_2 c75_0_2 n75_1 w25=>
 Alloc #[.int .u64 0,.int .i64 0,.slice none 0 0] 75 w25 fun k15 w26=>
 St3 k15 (.int .u64 n75_0_0) (.int .i64 n75_0_1) (.slice p75_0_2 l75_0_2 c75_0_2) w26 fun w29=>
 Rduis w29 k15 fun n78_0 n78_1 p78_2 l78_2 c78_2=>
 St3 k4 (.int .u64 n78_0) (.int .i64 n78_1) (.slice p78_2 l78_2 c78_2) w29 fun w32=>
 Rduis w32 k4 fun nr4_0_4 nr4_1_4 pr4_2_4 lr4_2_4 cr4_2_4=>
 R (.tuple #[Aguis nr4_0_4 nr4_1_4 pr4_2_4 lr4_2_4 cr4_2_4,.bool (n75_1==0)]) w32))))
theorem ring_Ring_record_calls {p0:Option Addr}{n1:Int}(h:ring_Ring_record p0 n1 w R):Calls Tp 82 #[.pointer p0,.int .u64 n1] w (RT R):=fnE (pl:=(.s .o (.s .o (.s .o (.s .o (.s .o (.s .o (.s .o (.s (.s .o (.b (.l [(11,.one .slice),(49,.one (.int .i64))] .o))) .o))))))))) callable Tryz.func82 h (by kernel_rfl)
def record_Encode (n0_0 n0_1:Int) (p0_2:Option Addr) (l0_2 c0_2:Nat) (w:World) (R:Value→World→Prop):Prop:=
 Alloc #[.int .u64 n0_0,.int .i64 n0_1,.slice p0_2 l0_2 c0_2] 75 w fun k1 w1=>
 Rduis w1 k1 fun n8_0 n8_1 p8_2 l8_2 c8_2=>
 C2 175 #[Aguis n8_0 n8_1 p8_2 l8_2 c8_2] w1 fun b9 w2=>
 Br (!b9) (
 R (.tuple #[.string (ByteArray.mk #[]),.slice none 0 0,.int .i64 1]) w2) (
 ∃(p12:Option Addr) (l12 c12:Nat),w2.cell? ⟨k1,2,none⟩=some (.slice p12 l12 c12)∧
 LoopP (fun I=>I [.slice none 0 0,.int .i64 0] w2) fun K vs w3=>∃(p5:Option Addr) (l5 c5:Nat),∃n14:Int,vs=[.slice p5 l5 c5,.int .i64 n14]∧
 Br (decide (n14<(l12:Int))) (
 ∃a16:Addr,p12=some a16∧(0:Int)≤n14∧n14<(l12:Int)∧
 ∃n17_0 n17_1:Int,∃s17_2:ByteArray,(w3.cell? (Addr.add a16 (n14.toNat*3))=some (.int .i64 n17_0)∧w3.cell? (Addr.add (Addr.add a16 (n14.toNat*3)) 1)=some (.int .i64 n17_1)∧w3.cell? (Addr.add (Addr.add a16 (n14.toNat*3)) 2)=some (.string s17_2))∧
 Alloc #[.int .i64 0,.int .i64 0,.string (ByteArray.mk #[])] 64 w3 fun k7 w4=>
 St3 k7 (.int .i64 n17_0) (.int .i64 n17_1) (.string s17_2) w4 fun w7=>
 ∃s20:ByteArray,w7.cell? ⟨k7,2,none⟩=some (.string s20)∧
 Alloc #[.string s20] 9 w7 fun k21 w8=>
 ∃(p22:Option Addr) (l22 c22:Nat),∃w9,(builtin .append #[54,54] 54 #[false,false] #[.slice p5 l5 c5,.slice (some ⟨k21,0,none⟩) 1 1]).run Tp w8=.ok (.value (.slice p22 l22 c22)) w9∧
 K [.slice p22 l22 c22,.int .i64 (IntKind.i64.wrap (n14+1))] w9) (
 ∃D:World→Prop,D w3.drew∧
 RDuis D k1 fun n24_0 n24_1 p24_2 l24_2 c24_2=>
 C0 177 #[.slice p5 l5 c5,.string (ByteArray.mk #[])] w3.drew fun s26 w10=>
 D w10∧
 C16 149 #[.string s26] w10 fun n27 w11=>
 D w11∧
 C0 176 #[Aguis n24_0 n24_1 p24_2 l24_2 c24_2,.int .u32 n27] w11 fun s28 w12=>
 D w12∧
 R (.tuple #[.string s28,.slice p5 l5 c5,.int .i64 0]) w12))
theorem record_Encode_calls {n0_0 n0_1:Int}{p0_2:Option Addr}{l0_2 c0_2:Nat}(h:record_Encode n0_0 n0_1 p0_2 l0_2 c0_2 w R):Calls Tp 101 #[Aguis n0_0 n0_1 p0_2 l0_2 c0_2] w (RT R):=fnE (pl:=(.s .o (.s .o (.s .o (.s (.s .o (.b (.l [(5,.one .slice),(14,.one (.int .i64))] .o))) .o))))) callable Tryz.func101 h (by kernel_rfl)
def ring_Ring_first (p0:Option Addr) (n1:Int) (w:World) (R:Value→World→Prop):Prop:=
 ∃a7:Addr,p0=some a7∧
 ∃n9:Int,w.cell? (a7.add 1)=some (.int .i64 n9)∧
 (IntKind.u64.wrap n9)≠0∧
 R (.int .i64 (IntKind.i64.wrap (4+(IntKind.i64.wrap (41*(IntKind.i64.wrap (Int.tmod n1 (IntKind.u64.wrap n9)))))))) w
theorem ring_Ring_first_calls {p0:Option Addr}{n1:Int}(h:ring_Ring_first p0 n1 w R):Calls Tp 102 #[.pointer p0,.int .u64 n1] w (RT R):=fnE (pl:=.o) callable Tryz.func102 h (by kernel_rfl)
def row_place_built (n0_0 n0_1 n0_2:Int) (p0_3:Option Addr) (l0_3 c0_3:Nat) (p0_4:Option Addr) (l0_4 c0_4:Nat) (n0_5 n0_6 n1:Int) (w:World) (R:Value→World→Prop):Prop:=
 Alloc #[.int .i64 n0_0,.int .i64 n0_1,.int .i64 n0_2,.slice p0_3 l0_3 c0_3,.slice p0_4 l0_4 c0_4,.int .i64 n0_5,.int .i64 n0_6] 108 w fun k2 w1=>
 Rdiiissii w1 k2 fun n6_0 n6_1 n6_2 p6_3 l6_3 c6_3 p6_4 l6_4 c6_4 n6_5 n6_6=>
 C3 178 #[Agiiissii n6_0 n6_1 n6_2 p6_3 l6_3 c6_3 p6_4 l6_4 c6_4 n6_5 n6_6,.int .i64 n1] w1 fun n8 w2=>
 ∃D:World→Prop,D w2.drew∧
 ∃(p11:Option Addr) (l11 c11:Nat),(∀w,D w→w.cell? ⟨k2,4,none⟩=some (.slice p11 l11 c11))∧
 ∃a13:Addr,p11=some a13∧(0:Int)≤n8∧n8<(l11:Int)∧
 ∃n14:Int,(∀w,D w→w.cell? (Addr.add a13 (n8.toNat*1))=some (.int .i64 n14))∧
 ∃n16:Int,(∀w,D w→w.cell? ⟨k2,5,none⟩=some (.int .i64 n16))∧
 Br (decide (n14≤n16)) (
 R (.pointer none) w2.drew) (
 ∃n19_0 n19_1 n19_2:Int,∃(p19_3:Option Addr) (l19_3 c19_3:Nat),∃(p19_4:Option Addr) (l19_4 c19_4:Nat),(w2.drew.cell? ⟨k2,0,none⟩=some (.int .i64 n19_0)∧w2.drew.cell? ⟨k2,1,none⟩=some (.int .i64 n19_1)∧w2.drew.cell? ⟨k2,2,none⟩=some (.int .i64 n19_2)∧w2.drew.cell? ⟨k2,3,none⟩=some (.slice p19_3 l19_3 c19_3)∧w2.drew.cell? ⟨k2,4,none⟩=some (.slice p19_4 l19_4 c19_4))∧
 C7 141 #[Agiiiss n19_0 n19_1 n19_2 p19_3 l19_3 c19_3 p19_4 l19_4 c19_4,.int .i64 n8] w2.drew fun p21 w3=>
 R (.pointer p21) w3)
theorem row_place_built_calls {n0_0 n0_1 n0_2:Int}{p0_3:Option Addr}{l0_3 c0_3:Nat}{p0_4:Option Addr}{l0_4 c0_4:Nat}{n0_5 n0_6 n1:Int}(h:row_place_built n0_0 n0_1 n0_2 p0_3 l0_3 c0_3 p0_4 l0_4 c0_4 n0_5 n0_6 n1 w R):Calls Tp 103 #[Agiiissii n0_0 n0_1 n0_2 p0_3 l0_3 c0_3 p0_4 l0_4 c0_4 n0_5 n0_6,.int .i64 n1] w (RT R):=fnE (pl:=.o) callable Tryz.func103 h (by kernel_rfl)
def refill_May (p0:Option Addr) (l0 c0:Nat) (p1:Option Addr) (l1 c1:Nat) (w:World) (R:Value→World→Prop):Prop:=
 Br (decide ((l0:Int)<4)) (
 R (.int .i64 1) w) (
 Br (decide ((l0:Int)>10)) (
 R (.int .i64 1) w) (
 ∃(p21:Option Addr) (l21 c21:Nat),∃w1,(Instr.makeSlice 144 (.int .i64 (l0:Int)) (.int .i64 (l0:Int))).run Tp w=.ok (.slice p21 l21 c21) w1∧
 LoopP (fun I=>I [.int .i64 0] w1) fun K vs w2=>∃n24:Int,vs=[.int .i64 n24]∧
 Br (decide (n24<(l1:Int))) (
 ∃a26:Addr,p1=some a26∧(0:Int)≤n24∧n24<(l1:Int)∧
 ∃n27:Int,w2.cell? (Addr.add a26 (n24.toNat*1))=some (.int .i64 n27)∧
 Br (decide (n27<0)) (
 R (.int .i64 1) w2) (
 Br (decide (n27≥(l0:Int))) (
 R (.int .i64 1) w2) (
 ∃a39:Addr,p21=some a39∧(0:Int)≤n27∧n27<(l21:Int)∧
 ∃b40:Bool,w2.cell? (Addr.add a39 (n27.toNat*1))=some (.bool b40)∧
 Br b40 (
 R (.int .i64 1) w2) (
 ∃a44:Addr,p21=some a44∧(0:Int)≤n27∧n27<(l21:Int)∧
 St (Addr.add a44 (n27.toNat*1)) (.bool true) w2 fun w3=>
 K [.int .i64 (IntKind.i64.wrap (n24+1))] w3)))) (
 LoopP (fun I_1=>I_1 [.int .i64 (-1),.int .i64 0] w2) fun K_1 vs_1 w4=>∃n8 n48:Int,vs_1=[.int .i64 n8,.int .i64 n48]∧
 Br (decide (n48<(l0:Int))) (
 ∃a51:Addr,p0=some a51∧(0:Int)≤n48∧n48<(l0:Int)∧
 ∃s52:ByteArray,w4.cell? (Addr.add a51 (n48.toNat*1))=some (.string s52)∧
 ∃a58:Addr,p21=some a58∧(0:Int)≤n48∧n48<(l21:Int)∧
 ∃b59:Bool,w4.cell? (Addr.add a58 (n48.toNat*1))=some (.bool b59)∧
 Br b59 (
 K_1 [.int .i64 n8,.int .i64 (IntKind.i64.wrap (n48+1))] w4) (
 Join (fun vs_2 w5=>∃b60:Bool,vs_2=[.bool b60]∧
 Br b60 (
 R (.int .i64 1) w5) (
 K_1 [.int .i64 (s52.size:Int),.int .i64 (IntKind.i64.wrap (n48+1))] w5)) fun J=>
 Br (decide (n8≥0)) (
 Br ((s52.size:Int) != n8) (
 J [.bool true] w4) (
 J [.bool (decide ((s52.size:Int)>4096))] w4)) (
 J [.bool (decide ((s52.size:Int)>4096))] w4))) (
 Br (decide ((l1:Int)>2)) (
 R (.int .i64 60) w4) (
 R (.int .i64 0) w4)))))
theorem refill_May_calls {p0:Option Addr}{l0 c0:Nat}{p1:Option Addr}{l1 c1:Nat}(h:refill_May p0 l0 c0 p1 l1 c1 w R):Calls Tp 104 #[.slice p0 l0 c0,.slice p1 l1 c1] w (RT R):=fnE (pl:=(.s .o (.s .o (.s .o (.s (.s .o (.b (.l [(24,.one (.int .i64))] .o))) (.s .o (.s (.s .o (.b (.l [(8,.one (.int .i64)),(48,.one (.int .i64))] (.s .o (.s .o (.s (.b (.s .o (.b (.s .o (.c .o (.j [(60,.one .bool)] .o .o)))))) .o)))))) .o))))))) callable Tryz.func104 h (by kernel_rfl)
def slices_Values_int_int (p0:Option Addr) (l0 c0:Nat) (w:World) (R:Value→World→Prop):Prop:=
 Alloc #[.slice p0 l0 c0] 29 w fun k1 w1=>
 R (.func (.func 179) #[] #[.pointer (some ⟨k1,0,none⟩)]) w1
theorem slices_Values_int_int_calls {p0:Option Addr}{l0 c0:Nat}(h:slices_Values_int_int p0 l0 c0 w R):Calls Tp 105 #[.slice p0 l0 c0] w (RT R):=fnE (pl:=.o) callable Tryz.func105 h (by kernel_rfl)
def slices_Clone_string_string (p0:Option Addr) (l0 c0:Nat) (w:World) (R:Value→World→Prop):Prop:=
 Br (Option.isNone p0) (
 R (.slice none 0 0) w) (
 Alloc #[] 9 w fun k5 w1=>
 ∃(p7:Option Addr) (l7 c7:Nat),∃w2,(builtin .append #[54,54] 54 #[false,false] #[.slice (some ⟨k5,0,none⟩) 0 0,.slice p0 l0 c0]).run Tp w1=.ok (.value (.slice p7 l7 c7)) w2∧
 R (.slice p7 l7 c7) w2)
theorem slices_Clone_string_string_calls {p0:Option Addr}{l0 c0:Nat}(h:slices_Clone_string_string p0 l0 c0 w R):Calls Tp 106 #[.slice p0 l0 c0] w (RT R):=fnE (pl:=.o) callable Tryz.func106 h (by kernel_rfl)
def slices_Contains_int_int (p0:Option Addr) (l0 c0:Nat) (n1:Int) (w:World) (R:Value→World→Prop):Prop:=
 C3 180 #[.slice p0 l0 c0,.int .i64 n1] w fun n7 w1=>
 R (.bool (decide (n7≥0))) w1
theorem slices_Contains_int_int_calls {p0:Option Addr}{l0 c0:Nat}{n1:Int}(h:slices_Contains_int_int p0 l0 c0 n1 w R):Calls Tp 107 #[.slice p0 l0 c0,.int .i64 n1] w (RT R):=fnE (pl:=.o) callable Tryz.func107 h (by kernel_rfl)
def refill_row_kind (p0_0:Option Addr) (l0_0 c0_0:Nat) (n0_1 n1:Int) (w:World) (R:Value→World→Prop):Prop:=
 Alloc #[.slice p0_0 l0_0 c0_0,.int .i64 n0_1] 182 w fun k2 w1=>
 ∃n8:Int,w1.cell? ⟨k2,1,none⟩=some (.int .i64 n8)∧
 Br (decide (n1<n8)) (
 R (.int .i64 1) w1) (
 ∃n13:Int,w1.cell? ⟨k2,1,none⟩=some (.int .i64 n13)∧
 Br (n1==n13) (
 R (.int .i64 2) w1) (
 R (.int .i64 3) w1))
theorem refill_row_kind_calls {p0_0:Option Addr}{l0_0 c0_0:Nat}{n0_1 n1:Int}(h:refill_row_kind p0_0 l0_0 c0_0 n0_1 n1 w R):Calls Tp 108 #[.agg #[.slice p0_0 l0_0 c0_0,.int .i64 n0_1],.int .i64 n1] w (RT R):=fnE (pl:=.o) callable Tryz.func108 h (by kernel_rfl)
def refill_Fill_1 (b0 b1:Bool) (k2:Addr) (w:World) (R:Value→World→Prop):Prop:=
 Join (fun vs w1=>vs=[]∧
 Br b1 (
 ∃D:World→Prop,D w1.drew∧
 ∃(p19:Option Addr) (l19 c19:Nat),(∀w,D w→w.cell? k2=some (.slice p19 l19 c19))∧
 ∃n21:Int,(∀w,D w→w.cell? (k2.add 1)=some (.int .i64 n21))∧
 ∃(p24:Option Addr) (l24 c24:Nat),(∀w,D w→w.cell? k2=some (.slice p24 l24 c24))∧
 ∃n26:Int,(∀w,D w→w.cell? (k2.add 1)=some (.int .i64 n26))∧
 ∃(p27:Option Addr) (l27 c27:Nat),(∀w,D w→(Instr.sliceAt 54 (.slice p24 l24 c24) none (some (.int .i64 n26)) none).run Tp w=.ok (.slice p27 l27 c27) w)∧
 C0 55 #[.slice p27 l27 c27] w1.drew fun s28 w2=>
 D w2∧
 ∃a29:Addr,p19=some a29∧(0:Int)≤IntKind.i64.wrap (n21+1)∧(IntKind.i64.wrap (n21+1))<(l19:Int)∧
 St (Addr.add a29 ((IntKind.i64.wrap (n21+1)).toNat*1)) (.string s28) w2 fun w3=>
 R (.tuple #[]) w3) (
 R (.tuple #[]) w1)) fun J=>
 Br b0 (
 ∃D_1:World→Prop,D_1 w.drew∧
 ∃(p7:Option Addr) (l7 c7:Nat),(∀w,D_1 w→w.cell? k2=some (.slice p7 l7 c7))∧
 ∃n9:Int,(∀w,D_1 w→w.cell? (k2.add 1)=some (.int .i64 n9))∧
 ∃(p11:Option Addr) (l11 c11:Nat),(∀w,D_1 w→w.cell? k2=some (.slice p11 l11 c11))∧
 ∃n13:Int,(∀w,D_1 w→w.cell? (k2.add 1)=some (.int .i64 n13))∧
 ∃(p14:Option Addr) (l14 c14:Nat),(∀w,D_1 w→(Instr.sliceAt 54 (.slice p11 l11 c11) none (some (.int .i64 n13)) none).run Tp w=.ok (.slice p14 l14 c14) w)∧
 C0 54 #[.slice p14 l14 c14] w.drew fun s15 w4=>
 D_1 w4∧
 ∃a16:Addr,p7=some a16∧(0:Int)≤n9∧n9<(l7:Int)∧
 St (Addr.add a16 (n9.toNat*1)) (.string s15) w4 fun w5=>
 J [] w5) (
 J [] w)
theorem refill_Fill_1_calls {b0 b1:Bool}{k2:Addr}(h:refill_Fill_1 b0 b1 k2 w R):Calls Tp 109 #[.bool b0,.bool b1,.pointer (some k2)] w (RT R):=fnE (pl:=(.j [] .o .o)) callable Tryz.func109 h (by kernel_rfl)
def refill_row_both (p0_0:Option Addr) (l0_0 c0_0:Nat) (n0_1 n1 n2:Int) (w:World) (R:Value→World→Prop):Prop:=
 Alloc #[.slice p0_0 l0_0 c0_0,.int .i64 n0_1] 182 w fun k3 w1=>
 ∃(p12:Option Addr) (l12 c12:Nat),w1.cell? ⟨k3,0,none⟩=some (.slice p12 l12 c12)∧
 C20 181 #[.slice p12 l12 c12] w1 fun s13_0 s13_1 w2=>
 C21 183 #[.int .i64 n1] w2 fun n18 w3=>
 C21 183 #[.int .i64 n2] w3 fun n20 w4=>
 C22 182 #[.int .u8 (bits2 .xor .u8 n18 n20)] w4 fun n22_0 b22_1 w5=>
 ∃D:World→Prop,D w5.drew∧
 ∃(p26:Option Addr) (l26 c26:Nat),(∀w,D w→w.cell? ⟨k3,0,none⟩=some (.slice p26 l26 c26))∧
 C21 183 #[.int .i64 n1] w5.drew fun n31 w6=>
 D w6∧
 C0 122 #[.string s13_0,.int .u8 n31] w6 fun s32 w7=>
 D w7∧
 C0 184 #[.string s13_1,.string s32] w7 fun s33 w8=>
 D w8∧
 C0 122 #[.string s33,.int .u8 n22_0] w8 fun s35 w9=>
 D w9∧
 ∃a36:Addr,p26=some a36∧(0:Int)≤n2∧n2<(l26:Int)∧
 St (Addr.add a36 (n2.toNat*1)) (.string s35) w9 fun w10=>
 ∃D_1:World→Prop,D_1 w10.drew∧
 ∃(p38:Option Addr) (l38 c38:Nat),(∀w,D_1 w→w.cell? ⟨k3,0,none⟩=some (.slice p38 l38 c38))∧
 ∃(p42:Option Addr) (l42 c42:Nat),(∀w,D_1 w→w.cell? ⟨k3,0,none⟩=some (.slice p42 l42 c42))∧
 ∃a44:Addr,p42=some a44∧(0:Int)≤n2∧n2<(l42:Int)∧
 ∃s45:ByteArray,(∀w,D_1 w→w.cell? (Addr.add a44 (n2.toNat*1))=some (.string s45))∧
 C0 184 #[.string s13_0,.string s45] w10.drew fun s46 w11=>
 D_1 w11∧
 ∃a47:Addr,p38=some a47∧(0:Int)≤n1∧n1<(l38:Int)∧
 St (Addr.add a47 (n1.toNat*1)) (.string s46) w11 fun w12=>
 R (.tuple #[]) w12
theorem refill_row_both_calls {p0_0:Option Addr}{l0_0 c0_0:Nat}{n0_1 n1 n2:Int}(h:refill_row_both p0_0 l0_0 c0_0 n0_1 n1 n2 w R):Calls Tp 110 #[.agg #[.slice p0_0 l0_0 c0_0,.int .i64 n0_1],.int .i64 n1,.int .i64 n2] w (RT R):=fnE (pl:=.o) callable Tryz.func110 h (by kernel_rfl)
def refill_row_byQ (p0_0:Option Addr) (l0_0 c0_0:Nat) (n0_1 n1:Int) (w:World) (R:Value→World→Prop):Prop:=
 Alloc #[.slice p0_0 l0_0 c0_0,.int .i64 n0_1] 182 w fun k2 w1=>
 ∃(p8:Option Addr) (l8 c8:Nat),w1.cell? ⟨k2,0,none⟩=some (.slice p8 l8 c8)∧
 C20 181 #[.slice p8 l8 c8] w1 fun s9_0 s9_1 w2=>
 ∃D:World→Prop,D w2.drew∧
 ∃(p13:Option Addr) (l13 c13:Nat),(∀w,D w→w.cell? ⟨k2,0,none⟩=some (.slice p13 l13 c13))∧
 ∃(p16:Option Addr) (l16 c16:Nat),(∀w,D w→w.cell? ⟨k2,0,none⟩=some (.slice p16 l16 c16))∧
 ∃a18:Addr,p16=some a18∧(0:Int)≤n1∧n1<(l16:Int)∧
 ∃s19:ByteArray,(∀w,D w→w.cell? (Addr.add a18 (n1.toNat*1))=some (.string s19))∧
 C21 183 #[.int .i64 (IntKind.i64.wrap (0-n1))] w2.drew fun n23 w3=>
 D w3∧
 C0 122 #[.string s9_1,.int .u8 n23] w3 fun s24 w4=>
 D w4∧
 C0 184 #[.string s19,.string s24] w4 fun s25 w5=>
 D w5∧
 ∃a26:Addr,p13=some a26∧(0:Int)≤n1∧n1<(l13:Int)∧
 St (Addr.add a26 (n1.toNat*1)) (.string s25) w5 fun w6=>
 R (.tuple #[]) w6
theorem refill_row_byQ_calls {p0_0:Option Addr}{l0_0 c0_0:Nat}{n0_1 n1:Int}(h:refill_row_byQ p0_0 l0_0 c0_0 n0_1 n1 w R):Calls Tp 111 #[.agg #[.slice p0_0 l0_0 c0_0,.int .i64 n0_1],.int .i64 n1] w (RT R):=fnE (pl:=.o) callable Tryz.func111 h (by kernel_rfl)
def refill_row_byP (p0_0:Option Addr) (l0_0 c0_0:Nat) (n0_1 n1:Int) (w:World) (R:Value→World→Prop):Prop:=
 Alloc #[.slice p0_0 l0_0 c0_0,.int .i64 n0_1] 182 w fun k2 w1=>
 ∃(p8:Option Addr) (l8 c8:Nat),w1.cell? ⟨k2,0,none⟩=some (.slice p8 l8 c8)∧
 C20 181 #[.slice p8 l8 c8] w1 fun s9_0 s9_1 w2=>
 ∃D:World→Prop,D w2.drew∧
 ∃(p13:Option Addr) (l13 c13:Nat),(∀w,D w→w.cell? ⟨k2,0,none⟩=some (.slice p13 l13 c13))∧
 ∃(p16:Option Addr) (l16 c16:Nat),(∀w,D w→w.cell? ⟨k2,0,none⟩=some (.slice p16 l16 c16))∧
 ∃a18:Addr,p16=some a18∧(0:Int)≤n1∧n1<(l16:Int)∧
 ∃s19:ByteArray,(∀w,D w→w.cell? (Addr.add a18 (n1.toNat*1))=some (.string s19))∧
 C0 184 #[.string s19,.string s9_0] w2.drew fun s21 w3=>
 D w3∧
 ∃a22:Addr,p13=some a22∧(0:Int)≤n1∧n1<(l13:Int)∧
 St (Addr.add a22 (n1.toNat*1)) (.string s21) w3 fun w4=>
 R (.tuple #[]) w4
theorem refill_row_byP_calls {p0_0:Option Addr}{l0_0 c0_0:Nat}{n0_1 n1:Int}(h:refill_row_byP p0_0 l0_0 c0_0 n0_1 n1 w R):Calls Tp 112 #[.agg #[.slice p0_0 l0_0 c0_0,.int .i64 n0_1],.int .i64 n1] w (RT R):=fnE (pl:=.o) callable Tryz.func112 h (by kernel_rfl)
def layout_Role (n0_0 n0_1 n0_2 n1 n2:Int) (w:World) (R:Value→World→Prop):Prop:=
 Alloc #[.int .i64 n0_0,.int .i64 n0_1,.int .i64 n0_2] 26 w fun k3 w1=>
 Rdiii w1 k3 fun n9_0 n9_1 n9_2=>
 Alloc #[.int .i64 0,.int .i64 0,.int .i64 0] 211 w1 fun k7 w2=>
 St3 k7 (.int .i64 n9_0) (.int .i64 n9_1) (.int .i64 n9_2) w2 fun w5=>
 Rdiii w5 k7 fun n11_0 n11_1 n11_2=>
 ∃n16:Int,w5.cell? ⟨k7,0,none⟩=some (.int .i64 n16)∧
 C2 140 #[Agiii n11_0 n11_1 n11_2,.int .i64 n1,.int .i64 n2,.int .i64 n16] w5 fun b17 w6=>
 Br (!b17) (
 R (.int .i64 0) w6) (
 ∃D:World→Prop,D w6.drew∧
 RDiii D k7 fun n20_0 n20_1 n20_2=>
 C3 187 #[Agiii n20_0 n20_1 n20_2,.int .i64 n1] w6.drew fun n22 w7=>
 D w7∧
 ∃n26:Int,(∀w,D w→w.cell? ⟨k7,0,none⟩=some (.int .i64 n26))∧
 ∃n30:Int,(∀w,D w→w.cell? ⟨k7,0,none⟩=some (.int .i64 n30))∧
 n30≠0∧
 (((Int.tmod (IntKind.i64.wrap ((IntKind.i64.wrap (n2-n22))+n26)) n30)==0)=true→
 ∃n36:Int,w7.cell? ⟨k7,0,none⟩=some (.int .i64 n36)∧
 R (.int .i64 (IntKind.i64.wrap (n36-1))) w7)∧
 (((Int.tmod (IntKind.i64.wrap ((IntKind.i64.wrap (n2-n22))+n26)) n30)==0)=false→
 R (.int .i64 (IntKind.i64.wrap ((Int.tmod (IntKind.i64.wrap ((IntKind.i64.wrap (n2-n22))+n26)) n30)-1))) w7))
theorem layout_Role_calls {n0_0 n0_1 n0_2 n1 n2:Int}(h:layout_Role n0_0 n0_1 n0_2 n1 n2 w R):Calls Tp 116 #[Agiii n0_0 n0_1 n0_2,.int .i64 n1,.int .i64 n2] w (RT R):=fnE (pl:=.o) callable Tryz.func116 h (by kernel_rfl)
def syndrome_added (p0:Option Addr) (l0 c0:Nat) (w:World) (R:Value→World→Prop):Prop:=
 LoopP (fun I=>I [.string (ByteArray.mk #[]),.int .i64 0] w) fun K vs w1=>∃s3:ByteArray,∃n8:Int,vs=[.string s3,.int .i64 n8]∧
 Br (decide (n8<(l0:Int))) (
 ∃a10:Addr,p0=some a10∧(0:Int)≤n8∧n8<(l0:Int)∧
 ∃s11:ByteArray,w1.cell? (Addr.add a10 (n8.toNat*1))=some (.string s11)∧
 C0 184 #[.string s3,.string s11] w1 fun s14 w2=>
 K [.string s14,.int .i64 (IntKind.i64.wrap (n8+1))] w2) (
 R (.string s3) w1)
theorem syndrome_added_calls {p0:Option Addr}{l0 c0:Nat}(h:syndrome_added p0 l0 c0 w R):Calls Tp 120 #[.slice p0 l0 c0] w (RT R):=fnE (pl:=(.s .o (.s .o (.s (.s .o (.b (.l [(3,.one .str),(8,.one (.int .i64))] .o))) .o)))) callable Tryz.func120 h (by kernel_rfl)
def syndrome_powers (w:World) (R:Value→World→Prop):Prop:=
 R (.func (.func 191) #[] #[]) w
theorem syndrome_powers_calls (h:syndrome_powers w R):Calls Tp 121 #[] w (RT R):=fnE (pl:=.o) callable Tryz.func121 h (by kernel_rfl)
def gf_Times (s0:ByteArray) (n1:Int) (w:World) (R:Value→World→Prop):Prop:=
 C7 193 #[] w fun p8 w1=>
 ∃(p12:Option Addr) (l12 c12:Nat),∃w2,(Instr.makeSlice 86 (.int .i64 (s0.size:Int)) (.int .i64 (s0.size:Int))).run Tp w1=.ok (.slice p12 l12 c12) w2∧
 LoopP (fun I=>I [.int .i64 0] w2) fun K vs w3=>∃n15:Int,vs=[.int .i64 n15]∧
 Br (decide (n15<(l12:Int))) (
 ∃n23:Int,∃w4,(Instr.index 9 (.string s0) (.int .i64 n15)).run Tp w3=.ok (.int .u8 n23) w4∧
 C21 194 #[.pointer p8,.int .u8 n23,.int .u8 n1] w4 fun n25 w5=>
 ∃a26:Addr,p12=some a26∧(0:Int)≤n15∧n15<(l12:Int)∧
 St (Addr.add a26 (n15.toNat*1)) (.int .u8 n25) w5 fun w6=>
 K [.int .i64 (IntKind.i64.wrap (n15+1))] w6) (
 ∃s29:ByteArray,∃w7,(convert 86 9 (.slice p12 l12 c12)).run Tp w3=.ok (.string s29) w7∧
 R (.string s29) w7)
theorem gf_Times_calls {s0:ByteArray}{n1:Int}(h:gf_Times s0 n1 w R):Calls Tp 122 #[.string s0,.int .u8 n1] w (RT R):=fnE (pl:=(.s .o (.s .o (.s .o (.s (.s .o (.b (.l [(15,.one (.int .i64))] .o))) .o))))) callable Tryz.func122 h (by kernel_rfl)
def row_place_sectors_1 (v0:Value) (k1:Addr) (w:World) (R:Value→World→Prop):Prop:=
 ∃n7:Int,w.cell? k1=some (.int .i64 n7)∧
 LoopP (fun I=>I [.int .i64 0] w) fun K vs w1=>∃n8:Int,vs=[.int .i64 n8]∧
 Br (decide (n8<n7)) (
 ∃n12_0 n12_1 n12_2:Int,∃(p12_3:Option Addr) (l12_3 c12_3:Nat),∃(p12_4:Option Addr) (l12_4 c12_4:Nat),∃n12_5 n12_6:Int,(w1.cell? k1=some (.int .i64 n12_0)∧w1.cell? (k1.add 1)=some (.int .i64 n12_1)∧w1.cell? (k1.add 2)=some (.int .i64 n12_2)∧w1.cell? (k1.add 3)=some (.slice p12_3 l12_3 c12_3)∧w1.cell? (k1.add 4)=some (.slice p12_4 l12_4 c12_4)∧w1.cell? (k1.add 5)=some (.int .i64 n12_5)∧w1.cell? (k1.add 6)=some (.int .i64 n12_6))∧
 C6 46 #[Agiiissii n12_0 n12_1 n12_2 p12_3 l12_3 c12_3 p12_4 l12_4 c12_4 n12_5 n12_6,.int .i64 n8] w1 fun s14_0 n14_1 w2=>
 CallF Tp v0 [.string s14_0,.int .i64 n14_1] w2 fun e_1 w3=>∃b17:Bool,e_1=.returned (.bool b17)∧
 Br (!b17) (
 R (.tuple #[]) w3) (
 K [.int .i64 (IntKind.i64.wrap (n8+1))] w3)) (
 R (.tuple #[]) w1)
theorem row_place_sectors_1_calls {v0:Value}{k1:Addr}(h:row_place_sectors_1 v0 k1 w R):Calls Tp 127 #[v0,.pointer (some k1)] w (RT R):=fnE (pl:=(.s .o (.b (.l [(8,.one (.int .i64))] .o)))) callable Tryz.func127 h (by kernel_rfl)
def ring_written_1 (k0:Addr) (k1:Addr) (k2:Addr) (w:World) (R:Value→World→Prop):Prop:=
 ∃p4:Option Addr,w.cell? k0=some (.pointer p4)∧
 ∃n5:Int,w.cell? k1=some (.int .i64 n5)∧
 ∃s6:ByteArray,w.cell? k2=some (.string s6)∧
 C3 66 #[.pointer p4,.int .i64 n5,.string s6] w fun n7 w1=>
 R (.int .i64 n7) w1
theorem ring_written_1_calls {k0:Addr}{k1:Addr}{k2:Addr}(h:ring_written_1 k0 k1 k2 w R):Calls Tp 128 #[.pointer (some k0),.pointer (some k1),.pointer (some k2)] w (RT R):=fnE (pl:=.o) callable Tryz.func128 h (by kernel_rfl)
def pack_Encode (p0:Option Addr) (l0 c0:Nat) (p1:Option Addr) (l1 c1:Nat) (w:World) (R:Value→World→Prop):Prop:=
 Alloc #[.slice p0 l0 c0] 155 w fun k2 w1=>
 C17 150 #[.slice p1 l1 c1] w1 fun n15_0 n15_1 w2=>
 Br (n15_1 != 0) (
 R (.tuple #[.string (ByteArray.mk #[]),.int .i64 n15_1]) w2) (
 ∃(p23:Option Addr) (l23 c23:Nat),w2.cell? ⟨k2,0,none⟩=some (.slice p23 l23 c23)∧
 Br ((l23:Int) != (l1:Int)) (
 R (.tuple #[.string (ByteArray.mk #[]),.int .i64 1]) w2) (
 LoopP (fun I=>I [.string (ByteArray.mk #[]),.int .i64 0,.int .i64 0] w2) fun K vs w3=>∃s4:ByteArray,∃n5 n30:Int,vs=[.string s4,.int .i64 n5,.int .i64 n30]∧
 Br (decide (n30<(l1:Int))) (
 ∃a33:Addr,p1=some a33∧(0:Int)≤n30∧n30<(l1:Int)∧
 ∃n34:Int,w3.cell? (Addr.add a33 (n30.toNat*1))=some (.int .i64 n34)∧
 ∃(p35:Option Addr) (l35 c35:Nat),w3.cell? ⟨k2,0,none⟩=some (.slice p35 l35 c35)∧
 ∃a37:Addr,p35=some a37∧(0:Int)≤n30∧n30<(l35:Int)∧
 ∃n38:Int,w3.cell? (Addr.add a37 (n30.toNat*1))=some (.int .u64 n38)∧
 C2 195 #[.int .u64 n38,.int .i64 n34] w3 fun b40 w4=>
 Br (!b40) (
 R (.tuple #[.string (ByteArray.mk #[]),.int .i64 30]) w4) (
 K [.string s4,.int .i64 n5,.int .i64 (IntKind.i64.wrap (n30+1))] w4)) (
 ∃(p44:Option Addr) (l44 c44:Nat),∃w5,(Instr.makeSlice 86 (.int .i64 0) (.int .i64 n15_0)).run Tp w3=.ok (.slice p44 l44 c44) w5∧
 Alloc #[.slice none 0 0] 86 w5 fun k10 w6=>
 St ⟨k10,0,none⟩ (.slice p44 l44 c44) w6 fun w7=>
 Calls Tp 151 #[.slice p1 l1 c1] w7 fun e_2 w8=>∃v46:Value,e_2=.returned v46∧
 RangeP Tp v46 (fun ob l args W Φ=>∃n47 n48:Int,args=[.int .i64 n47,.int .i64 n48]∧
 RoundP ob l Φ (fun K_1 X R w9=>
 ∃D:World→Prop,D w9.drew∧
 ∃(p49:Option Addr) (l49 c49:Nat),(∀w,D w→w.cell? ⟨k10,0,none⟩=some (.slice p49 l49 c49))∧
 ∃(p50:Option Addr) (l50 c50:Nat),(∀w,D w→w.cell? ⟨k2,0,none⟩=some (.slice p50 l50 c50))∧
 ∃a52:Addr,p50=some a52∧(0:Int)≤n47∧n47<(l50:Int)∧
 ∃n53:Int,(∀w,D w→w.cell? (Addr.add a52 (n47.toNat*1))=some (.int .u64 n53))∧
 (0:Int)≤n48∧
 Alloc #[.int .u8 (IntKind.u8.wrap (Int.fdiv n53 (2 ^ (min n48.toNat 64))))] 5 w9.drew fun k57 w10=>
 D w10∧
 ∃(p58:Option Addr) (l58 c58:Nat),∃w11,(builtin .append #[86,86] 86 #[false,false] #[.slice p49 l49 c49,.slice (some ⟨k57,0,none⟩) 1 1]).run Tp w10=.ok (.value (.slice p58 l58 c58)) w11∧
 D w11∧
 St ⟨k10,0,none⟩ (.slice p58 l58 c58) w11 fun w12=>
 K_1 w12) W) []
 (fun d w13=>
 ∃(p59:Option Addr) (l59 c59:Nat),w13.cell? ⟨k10,0,none⟩=some (.slice p59 l59 c59)∧
 ∃s60:ByteArray,∃w14,(convert 86 9 (.slice p59 l59 c59)).run Tp w13=.ok (.string s60) w14∧
 w14.heap[d]?=some (.deferred (some []))∧
 R (.tuple #[.string s60,.int .i64 0]) (w14.putObj d (.deferred none)))
 (fun d_1 w15=>
 w15.heap[d_1]?=some (.deferred (some []))∧
 R (.tuple #[.string s4,.int .i64 n5]) (w15.putObj d_1 (.deferred none))) w8)))
theorem pack_Encode_calls {p0:Option Addr}{l0 c0:Nat}{p1:Option Addr}{l1 c1:Nat}(h:pack_Encode p0 l0 c0 p1 l1 c1 w R):Calls Tp 129 #[.slice p0 l0 c0,.slice p1 l1 c1] w (RT R):=fnE (pl:=(.s .o (.s .o (.s .o (.s (.s .o (.b (.l [(4,.one .str),(5,.one (.int .i64)),(30,.one (.int .i64))] .o))) (.s .o (.s (.s .o (.b (.rf [(47,.one (.int .i64)),(48,.one (.int .i64))] .o))) .o))))))) callable Tryz.func129 h (by kernel_rfl)
def crc_Seal (s0:ByteArray) (n1:Int) (w:World) (R:Value→World→Prop):Prop:=
 Br (decide (n1<4)) (
 R (.tuple #[.string (ByteArray.mk #[]),.bool false]) w) (
 Br (decide (n1>4096)) (
 R (.tuple #[.string (ByteArray.mk #[]),.bool false]) w) (
 Br (decide ((s0.size:Int)>(IntKind.i64.wrap (n1-4)))) (
 R (.tuple #[.string (ByteArray.mk #[]),.bool false]) w) (
 ∃(p22:Option Addr) (l22 c22:Nat),∃w1,(Instr.makeSlice 86 (.int .i64 (IntKind.i64.wrap (n1-4))) (.int .i64 (IntKind.i64.wrap (n1-4)))).run Tp w=.ok (.slice p22 l22 c22) w1∧
 ∃n25:Int,∃w2,(builtin .copy #[86,9] 3 #[false,false] #[.slice p22 l22 c22,.string s0]).run Tp w1=.ok (.value (.int .i64 n25)) w2∧
 ∃s28:ByteArray,∃w3,(convert 86 9 (.slice p22 l22 c22)).run Tp w2=.ok (.string s28) w3∧
 C16 149 #[.string s28] w3 fun n29 w4=>
 C1 148 #[.int .u32 n29] w4 fun p30 l30 c30 w5=>
 ∃(p31:Option Addr) (l31 c31:Nat),∃w6,(builtin .append #[86,86] 86 #[false,false] #[.slice p22 l22 c22,.slice p30 l30 c30]).run Tp w5=.ok (.value (.slice p31 l31 c31)) w6∧
 ∃s32:ByteArray,∃w7,(convert 86 9 (.slice p31 l31 c31)).run Tp w6=.ok (.string s32) w7∧
 R (.tuple #[.string s32,.bool true]) w7)))
theorem crc_Seal_calls {s0:ByteArray}{n1:Int}(h:crc_Seal s0 n1 w R):Calls Tp 130 #[.string s0,.int .i64 n1] w (RT R):=fnE (pl:=.o) callable Tryz.func130 h (by kernel_rfl)
def row_May_1 (p0:Option Addr) (k1:Addr) (w:World) (R:Value→World→Prop):Prop:=
 ∃D:World→Prop,D w.drew∧
 Br (!(Option.isNone p0)) (
 C3 73 #[.pointer p0] w.drew fun n8 w1=>
 D w1∧
 ∃n10_0 n10_1 n10_2:Int,(∀w,D w→w.cell? k1=some (.int .i64 n10_0)∧w.cell? (k1.add 1)=some (.int .i64 n10_1)∧w.cell? (k1.add 2)=some (.int .i64 n10_2))∧
 C3 134 #[Agiii n10_0 n10_1 n10_2] w1 fun n11 w2=>
 D w2∧
 R (.bool (decide (n8<n11))) w2) (
 R (.bool false) w.drew)
theorem row_May_1_calls {p0:Option Addr}{k1:Addr}(h:row_May_1 p0 k1 w R):Calls Tp 133 #[.pointer p0,.pointer (some k1)] w (RT R):=fnE (pl:=.o) callable Tryz.func133 h (by kernel_rfl)
def layout_Need (n0_0 n0_1 n0_2:Int) (w:World) (R:Value→World→Prop):Prop:=
 Alloc #[.int .i64 n0_0,.int .i64 n0_1,.int .i64 n0_2] 26 w fun k1 w1=>
 Rdiii w1 k1 fun n4_0 n4_1 n4_2=>
 Alloc #[.int .i64 0,.int .i64 0,.int .i64 0] 211 w1 fun k3 w2=>
 St3 k3 (.int .i64 n4_0) (.int .i64 n4_1) (.int .i64 n4_2) w2 fun w5=>
 Rdiii w5 k3 fun n6_0 n6_1 n6_2=>
 C2 196 #[Agiii n6_0 n6_1 n6_2] w5 fun b7 w6=>
 Br b7 (
 ∃n10:Int,w6.cell? ⟨k3,2,none⟩=some (.int .i64 n10)∧
 ∃n13:Int,w6.cell? ⟨k3,1,none⟩=some (.int .i64 n13)∧
 R (.int .i64 (IntKind.i64.wrap (4+(IntKind.i64.wrap (n10*n13))))) w6) (
 R (.int .i64 0) w6)
theorem layout_Need_calls {n0_0 n0_1 n0_2:Int}(h:layout_Need n0_0 n0_1 n0_2 w R):Calls Tp 134 #[Agiii n0_0 n0_1 n0_2] w (RT R):=fnE (pl:=.o) callable Tryz.func134 h (by kernel_rfl)
def layout_Check (n0_0 n0_1 n0_2:Int) (w:World) (R:Value→World→Prop):Prop:=
 Alloc #[.int .i64 n0_0,.int .i64 n0_1,.int .i64 n0_2] 26 w fun k1 w1=>
 ∃n6:Int,w1.cell? ⟨k1,0,none⟩=some (.int .i64 n6)∧
 ∃n9:Int,w1.cell? ⟨k1,1,none⟩=some (.int .i64 n9)∧
 ∃n12:Int,w1.cell? ⟨k1,2,none⟩=some (.int .i64 n12)∧
 LoopP (fun I=>I [.int .i64 0] w1) fun K vs w2=>∃n15:Int,vs=[.int .i64 n15]∧
 Br (decide (n15<3)) (
 ∃n17_0 n17_1 n17_2:Int,∃w3,(Instr.index 262 ((Agiiiiiiiii 4 n6 10 1 n9 4 1 n12 256)) (.int .i64 n15)).run Tp w2=.ok ((Agiii n17_0 n17_1 n17_2)) w3∧
 Alloc #[.int .i64 0,.int .i64 0,.int .i64 0] 261 w3 fun k4 w4=>
 St3 k4 (.int .i64 n17_0) (.int .i64 n17_1) (.int .i64 n17_2) w4 fun w7=>
 (0:Int)≤1∧1<(3:Int)∧
 ∃n19:Int,w7.cell? ⟨k4,1,none⟩=some (.int .i64 n19)∧
 (0:Int)≤0∧0<(3:Int)∧
 ∃n21:Int,w7.cell? ⟨k4,0,none⟩=some (.int .i64 n21)∧
 Br (decide (n19<n21)) (
 R (.int .i64 1) w7) (
 (0:Int)≤1∧1<(3:Int)∧
 ∃n25:Int,w7.cell? ⟨k4,1,none⟩=some (.int .i64 n25)∧
 (0:Int)≤2∧2<(3:Int)∧
 ∃n27:Int,w7.cell? ⟨k4,2,none⟩=some (.int .i64 n27)∧
 Br (decide (n25>n27)) (
 R (.int .i64 1) w7) (
 K [.int .i64 (IntKind.i64.wrap (n15+1))] w7))) (
 R (.int .i64 0) w2)
theorem layout_Check_calls {n0_0 n0_1 n0_2:Int}(h:layout_Check n0_0 n0_1 n0_2 w R):Calls Tp 135 #[Agiii n0_0 n0_1 n0_2] w (RT R):=fnE (pl:=(.s .o (.s (.s .o (.b (.l [(15,.one (.int .i64))] .o))) .o))) callable Tryz.func135 h (by kernel_rfl)
def slices_ContainsFunc_drive_Drive_drive_Drive (p0:Option Addr) (l0 c0:Nat) (v1:Value) (w:World) (R:Value→World→Prop):Prop:=
 C3 197 #[.slice p0 l0 c0,v1] w fun n7 w1=>
 R (.bool (decide (n7≥0))) w1
theorem slices_ContainsFunc_drive_Drive_drive_Drive_calls {p0:Option Addr}{l0 c0:Nat}{v1:Value}(h:slices_ContainsFunc_drive_Drive_drive_Drive p0 l0 c0 v1 w R):Calls Tp 136 #[.slice p0 l0 c0,v1] w (RT R):=fnE (pl:=.o) callable Tryz.func136 h (by kernel_rfl)
def slices_IndexFunc_record_Part_record_Part (p0:Option Addr) (l0 c0:Nat) (v1:Value) (w:World) (R:Value→World→Prop):Prop:=
 LoopP (fun I=>I [.int .i64 0] w) fun K vs w1=>∃n8:Int,vs=[.int .i64 n8]∧
 Br (decide (n8<(l0:Int))) (
 ∃a14:Addr,p0=some a14∧(0:Int)≤n8∧n8<(l0:Int)∧
 ∃n15_0 n15_1:Int,∃s15_2:ByteArray,(w1.cell? (Addr.add a14 (n8.toNat*3))=some (.int .i64 n15_0)∧w1.cell? (Addr.add (Addr.add a14 (n8.toNat*3)) 1)=some (.int .i64 n15_1)∧w1.cell? (Addr.add (Addr.add a14 (n8.toNat*3)) 2)=some (.string s15_2))∧
 CallF Tp v1 [Agiit n15_0 n15_1 s15_2] w1 fun e w2=>∃b16:Bool,e=.returned (.bool b16)∧
 Br b16 (
 R (.int .i64 n8) w2) (
 K [.int .i64 (IntKind.i64.wrap (n8+1))] w2)) (
 R (.int .i64 (-1)) w1)
theorem slices_IndexFunc_record_Part_record_Part_calls {p0:Option Addr}{l0 c0:Nat}{v1:Value}(h:slices_IndexFunc_record_Part_record_Part p0 l0 c0 v1 w R):Calls Tp 137 #[.slice p0 l0 c0,v1] w (RT R):=fnE (pl:=(.s .o (.s (.s .o (.b (.l [(8,.one (.int .i64))] .o))) .o))) callable Tryz.func137 h (by kernel_rfl)
def layout_plan_in (n0_0 n0_1 n0_2 n1 n2 n3:Int) (w:World) (R:Value→World→Prop):Prop:=
 Alloc #[.int .i64 n0_0,.int .i64 n0_1,.int .i64 n0_2] 211 w fun k4 w1=>
 Rdiii w1 k4 fun n9_0 n9_1 n9_2=>
 C2 196 #[Agiii n9_0 n9_1 n9_2] w1 fun b10 w2=>
 Br b10 (
 Br (decide (n1≥0)) (
 ∃n19:Int,w2.cell? ⟨k4,2,none⟩=some (.int .i64 n19)∧
 Br (decide (n1<n19)) (
 Br (decide (n2≥0)) (
 R (.bool (decide (n2<n3))) w2) (
 R (.bool false) w2)) (
 R (.bool false) w2)) (
 R (.bool false) w2)) (
 R (.bool false) w2)
theorem layout_plan_in_calls {n0_0 n0_1 n0_2 n1 n2 n3:Int}(h:layout_plan_in n0_0 n0_1 n0_2 n1 n2 n3 w R):Calls Tp 140 #[Agiii n0_0 n0_1 n0_2,.int .i64 n1,.int .i64 n2,.int .i64 n3] w (RT R):=fnE (pl:=.o) callable Tryz.func140 h (by kernel_rfl)
def row_Set_there (n0_0 n0_1 n0_2:Int) (p0_3:Option Addr) (l0_3 c0_3:Nat) (p0_4:Option Addr) (l0_4 c0_4:Nat) (n1:Int) (w:World) (R:Value→World→Prop):Prop:=
 Alloc #[.int .i64 n0_0,.int .i64 n0_1,.int .i64 n0_2,.slice p0_3 l0_3 c0_3,.slice p0_4 l0_4 c0_4] 31 w fun k2 w1=>
 ∃(p7:Option Addr) (l7 c7:Nat),w1.cell? ⟨k2,3,none⟩=some (.slice p7 l7 c7)∧
 ∃a9:Addr,p7=some a9∧(0:Int)≤n1∧n1<(l7:Int)∧
 ∃p10:Option Addr,w1.cell? (Addr.add a9 (n1.toNat*1))=some (.pointer p10)∧
 Br (!(Option.isNone p10)) (
 C2 123 #[.pointer p10] w1 fun b15 w2=>
 Br (!b15) (
 R (.pointer p10) w2) (
 R (.pointer none) w2)) (
 R (.pointer none) w1)
theorem row_Set_there_calls {n0_0 n0_1 n0_2:Int}{p0_3:Option Addr}{l0_3 c0_3:Nat}{p0_4:Option Addr}{l0_4 c0_4:Nat}{n1:Int}(h:row_Set_there n0_0 n0_1 n0_2 p0_3 l0_3 c0_3 p0_4 l0_4 c0_4 n1 w R):Calls Tp 141 #[Agiiiss n0_0 n0_1 n0_2 p0_3 l0_3 c0_3 p0_4 l0_4 c0_4,.int .i64 n1] w (RT R):=fnE (pl:=.o) callable Tryz.func141 h (by kernel_rfl)
def crc_bytes (n0:Int) (w:World) (R:Value→World→Prop):Prop:=
 Alloc #[.int .u8 (IntKind.u8.wrap n0),.int .u8 (IntKind.u8.wrap (Int.fdiv n0 (2 ^ 8))),.int .u8 (IntKind.u8.wrap (Int.fdiv n0 (2 ^ 16))),.int .u8 (IntKind.u8.wrap (Int.fdiv n0 (2 ^ 24)))] 5 w fun k14 w1=>
 R (.slice (some ⟨k14,0,none⟩) 4 4) w1
theorem crc_bytes_calls {n0:Int}(h:crc_bytes n0 w R):Calls Tp 148 #[.int .u32 n0] w (RT R):=fnE (pl:=.o) callable Tryz.func148 h (by kernel_rfl)
def crc_Sum (s0:ByteArray) (w:World) (R:Value→World→Prop):Prop:=
 C16 199 #[.int .u32 0,.string s0] w fun n4 w1=>
 R (.int .u32 n4) w1
theorem crc_Sum_calls {s0:ByteArray}(h:crc_Sum s0 w R):Calls Tp 149 #[.string s0] w (RT R):=fnE (pl:=.o) callable Tryz.func149 h (by kernel_rfl)
def pack_Size (p0:Option Addr) (l0 c0:Nat) (w:World) (R:Value→World→Prop):Prop:=
 LoopP (fun I=>I [.int .i64 0,.int .i64 0] w) fun K vs w1=>∃n4 n9:Int,vs=[.int .i64 n4,.int .i64 n9]∧
 Br (decide (n9<(l0:Int))) (
 ∃a11:Addr,p0=some a11∧(0:Int)≤n9∧n9<(l0:Int)∧
 ∃n12:Int,w1.cell? (Addr.add a11 (n9.toNat*1))=some (.int .i64 n12)∧
 Br (decide (n12<1)) (
 R (.tuple #[.int .i64 0,.int .i64 1]) w1) (
 Br (decide (n12>8)) (
 R (.tuple #[.int .i64 0,.int .i64 1]) w1) (
 K [.int .i64 (IntKind.i64.wrap (n4+n12)),.int .i64 (IntKind.i64.wrap (n9+1))] w1))) (
 Br (decide ((l0:Int)>64)) (
 R (.tuple #[.int .i64 0,.int .i64 1]) w1) (
 R (.tuple #[.int .i64 n4,.int .i64 0]) w1))
theorem pack_Size_calls {p0:Option Addr}{l0 c0:Nat}(h:pack_Size p0 l0 c0 w R):Calls Tp 150 #[.slice p0 l0 c0] w (RT R):=fnE (pl:=(.s .o (.s .o (.s (.s .o (.b (.l [(4,.one (.int .i64)),(9,.one (.int .i64))] .o))) .o)))) callable Tryz.func150 h (by kernel_rfl)
def pack_places (p0:Option Addr) (l0 c0:Nat) (w:World) (R:Value→World→Prop):Prop:=
 Alloc #[.slice p0 l0 c0] 29 w fun k1 w1=>
 R (.func (.func 200) #[] #[.pointer (some ⟨k1,0,none⟩)]) w1
theorem pack_places_calls {p0:Option Addr}{l0 c0:Nat}(h:pack_places p0 l0 c0 w R):Calls Tp 151 #[.slice p0 l0 c0] w (RT R):=fnE (pl:=.o) callable Tryz.func151 h (by kernel_rfl)
def record_Head (s0:ByteArray) (w:World) (R:Value→World→Prop):Prop:=
 Alloc #[.int .u64 0,.int .i64 0,.slice none 0 0] 75 w fun k2 w1=>
 Br ((s0.size:Int) != 64) (
 St3 k2 (.int .u64 0) (.int .i64 0) (.slice none 0 0) w1 fun w4=>
 Rduis w4 k2 fun nr2_0 nr2_1 pr2_2 lr2_2 cr2_2=>
 R (.tuple #[Aguis nr2_0 nr2_1 pr2_2 lr2_2 cr2_2,.int .u32 0,.int .i64 31]) w4) (
 C13 80 #[.string s0] w1 fun s19_0 b19_1 w5=>
 Br (!b19_1) (
 St3 k2 (.int .u64 0) (.int .i64 0) (.slice none 0 0) w5 fun w8=>
 Rduis w8 k2 fun nr2_0_1 nr2_1_1 pr2_2_1 lr2_2_1 cr2_2_1=>
 R (.tuple #[Aguis nr2_0_1 nr2_1_1 pr2_2_1 lr2_2_1 cr2_2_1,.int .u32 0,.int .i64 80]) w8) (
 C2 160 #[.string s19_0,.string (ByteArray.mk #[82,86,84,74])] w5 fun b28 w9=>
 Br (!b28) (
 St3 k2 (.int .u64 0) (.int .i64 0) (.slice none 0 0) w9 fun w12=>
 Rduis w12 k2 fun nr2_0_2 nr2_1_2 pr2_2_2 lr2_2_2 cr2_2_2=>
 R (.tuple #[Aguis nr2_0_2 nr2_1_2 pr2_2_2 lr2_2_2 cr2_2_2,.int .u32 0,.int .i64 81]) w12) (
 ∃s33:ByteArray,∃w13,(Instr.sliceAt 9 (.string s19_0) (some (.int .i64 4)) (some (.int .i64 19)) none).run Tp w9=.ok (.string s33) w13∧
 Alloc #[.int .i64 8,.int .i64 2,.int .i64 1,.int .i64 4] 3 w13 fun k34 w14=>
 C9 81 #[.string s33,.slice (some ⟨k34,0,none⟩) 4 4] w14 fun p35_0 l35_0 c35_0 n35_1 w15=>
 Br (n35_1 != 0) (
 St3 k2 (.int .u64 0) (.int .i64 0) (.slice none 0 0) w15 fun w18=>
 Rduis w18 k2 fun nr2_0_3 nr2_1_3 pr2_2_3 lr2_2_3 cr2_2_3=>
 R (.tuple #[Aguis nr2_0_3 nr2_1_3 pr2_2_3 lr2_2_3 cr2_2_3,.int .u32 0,.int .i64 n35_1]) w18) (
 ∃D:World→Prop,D w15.drew∧
 ∃a43:Addr,p35_0=some a43∧(0:Int)≤0∧0<(l35_0:Int)∧
 ∃n44:Int,(∀w,D w→w.cell? a43=some (.int .u64 n44))∧
 ∃a46:Addr,p35_0=some a46∧(0:Int)≤1∧1<(l35_0:Int)∧
 ∃n47:Int,(∀w,D w→w.cell? (a46.add 1)=some (.int .u64 n47))∧
 Alloc #[.int .u64 0,.int .i64 0,.slice none 0 0] 75 w15.drew fun k9 w19=>
 D w19∧
 St3 k9 (.int .u64 n44) (.int .i64 (IntKind.i64.wrap n47)) (.slice none 0 0) w19 fun w22=>
 ∃a52:Addr,p35_0=some a52∧(0:Int)≤2∧2<(l35_0:Int)∧
 ∃n53:Int,w22.cell? (a52.add 2)=some (.int .u64 n53)∧
 ∃n58:Int,∃w23,(builtin .min #[3,3] 3 #[false,false] #[.int .i64 (IntKind.i64.wrap (19+(IntKind.i64.wrap n53))),.int .i64 (s19_0.size:Int)]).run Tp w22=.ok (.value (.int .i64 n58)) w23∧
 ∃s59:ByteArray,∃w24,(Instr.sliceAt 9 (.string s19_0) (some (.int .i64 19)) (some (.int .i64 n58)) none).run Tp w23=.ok (.string s59) w24∧
 ∃(p60:Option Addr) (l60 c60:Nat),∃w25,(convert 9 86 (.string s59)).run Tp w24=.ok (.slice p60 l60 c60) w25∧
 LoopP (fun I=>I [.int .i64 0] w25) fun K vs w26=>∃n62:Int,vs=[.int .i64 n62]∧
 Br (decide (n62<(l60:Int))) (
 ∃a64:Addr,p60=some a64∧(0:Int)≤n62∧n62<(l60:Int)∧
 ∃n65:Int,w26.cell? (Addr.add a64 (n62.toNat*1))=some (.int .u8 n65)∧
 ∃(p67:Option Addr) (l67 c67:Nat),w26.cell? ⟨k9,2,none⟩=some (.slice p67 l67 c67)∧
 Alloc #[.int .i64 (IntKind.i64.wrap (Int.fdiv n65 (2 ^ 2))),.int .i64 (IntKind.i64.wrap (bits2 .and .u8 n65 3)),.string (ByteArray.mk #[])] 64 w26 fun k75 w27=>
 ∃(p76:Option Addr) (l76 c76:Nat),∃w28,(builtin .append #[60,60] 60 #[false,false] #[.slice p67 l67 c67,.slice (some ⟨k75,0,none⟩) 1 1]).run Tp w27=.ok (.value (.slice p76 l76 c76)) w28∧
 St ⟨k9,2,none⟩ (.slice p76 l76 c76) w28 fun w29=>
 K [.int .i64 (IntKind.i64.wrap (n62+1))] w29) (
 Join (fun vs_1 w30=>vs_1=[]∧
 St3 k2 (.int .u64 0) (.int .i64 0) (.slice none 0 0) w30 fun w33=>
 Rduis w33 k2 fun nr2_0_4 nr2_1_4 pr2_2_4 lr2_2_4 cr2_2_4=>
 R (.tuple #[Aguis nr2_0_4 nr2_1_4 pr2_2_4 lr2_2_4 cr2_2_4,.int .u32 0,.int .i64 1]) w33) fun J=>
 ∃a80:Addr,p35_0=some a80∧(0:Int)≤3∧3<(l35_0:Int)∧
 ∃n81:Int,w26.cell? (a80.add 3)=some (.int .u64 n81)∧
 Rduis w26 k9 fun n83_0 n83_1 p83_2 l83_2 c83_2=>
 C2 201 #[Aguis n83_0 n83_1 p83_2 l83_2 c83_2] w26 fun b84 w34=>
 Br b84 (
 Rduis w34 k9 fun n86_0 n86_1 p86_2 l86_2 c86_2=>
 C0 176 #[Aguis n86_0 n86_1 p86_2 l86_2 c86_2,.int .u32 (IntKind.u32.wrap n81)] w34 fun s88 w35=>
 Br (s88.toList==s0.toList) (
 Rduis w35 k9 fun n92_0 n92_1 p92_2 l92_2 c92_2=>
 St3 k2 (.int .u64 n92_0) (.int .i64 n92_1) (.slice p92_2 l92_2 c92_2) w35 fun w38=>
 Rduis w38 k2 fun nr2_0_5 nr2_1_5 pr2_2_5 lr2_2_5 cr2_2_5=>
 R (.tuple #[Aguis nr2_0_5 nr2_1_5 pr2_2_5 lr2_2_5 cr2_2_5,.int .u32 (IntKind.u32.wrap n81),.int .i64 0]) w38) (
 J [] w35)) (
 J [] w34))))))
theorem record_Head_calls {s0:ByteArray}(h:record_Head s0 w R):Calls Tp 152 #[.string s0] w (RT R):=fnE (pl:=(.s .o (.s .o (.s .o (.s .o (.s .o (.s .o (.s .o (.s (.s .o (.b (.l [(62,.one (.int .i64))] .o))) (.j [] .o .o)))))))))) callable Tryz.func152 h (by kernel_rfl)
def record_Decode (s0:ByteArray) (p1:Option Addr) (l1 c1:Nat) (w:World) (R:Value→World→Prop):Prop:=
 Alloc #[.int .u64 0,.int .i64 0,.slice none 0 0] 75 w fun k4 w1=>
 C18 152 #[.string s0] w1 fun n13_0_0 n13_0_1 p13_0_2 l13_0_2 c13_0_2 n13_1 n13_2 w2=>
 Alloc #[.int .u64 0,.int .i64 0,.slice none 0 0] 75 w2 fun k6 w3=>
 St3 k6 (.int .u64 n13_0_0) (.int .i64 n13_0_1) (.slice p13_0_2 l13_0_2 c13_0_2) w3 fun w6=>
 Br (n13_2 != 0) (
 St3 k4 (.int .u64 0) (.int .i64 0) (.slice none 0 0) w6 fun w9=>
 Rduis w9 k4 fun nr4_0 nr4_1 pr4_2 lr4_2 cr4_2=>
 R (.tuple #[Aguis nr4_0 nr4_1 pr4_2 lr4_2 cr4_2,.int .i64 n13_2]) w9) (
 ∃(p26:Option Addr) (l26 c26:Nat),w6.cell? ⟨k6,2,none⟩=some (.slice p26 l26 c26)∧
 Br ((l1:Int) != (l26:Int)) (
 St3 k4 (.int .u64 0) (.int .i64 0) (.slice none 0 0) w6 fun w12=>
 Rduis w12 k4 fun nr4_0_1 nr4_1_1 pr4_2_1 lr4_2_1 cr4_2_1=>
 R (.tuple #[Aguis nr4_0_1 nr4_1_1 pr4_2_1 lr4_2_1 cr4_2_1,.int .i64 31]) w12) (
 LoopP (fun I=>I [.int .i64 0] w6) fun K vs w13=>∃n32:Int,vs=[.int .i64 n32]∧
 Br (decide (n32<(l1:Int))) (
 ∃a35:Addr,p1=some a35∧(0:Int)≤n32∧n32<(l1:Int)∧
 ∃s36:ByteArray,w13.cell? (Addr.add a35 (n32.toNat*1))=some (.string s36)∧
 ∃(p38:Option Addr) (l38 c38:Nat),w13.cell? ⟨k6,2,none⟩=some (.slice p38 l38 c38)∧
 ∃a41:Addr,p38=some a41∧(0:Int)≤n32∧n32<(l38:Int)∧
 St (Addr.add (Addr.add a41 (n32.toNat*3)) 2) (.string s36) w13 fun w14=>
 K [.int .i64 (IntKind.i64.wrap (n32+1))] w14) (
 Rduis w13 k6 fun n45_0 n45_1 p45_2 l45_2 c45_2=>
 C2 202 #[Aguis n45_0 n45_1 p45_2 l45_2 c45_2] w13 fun b46 w15=>
 Br (!b46) (
 St3 k4 (.int .u64 0) (.int .i64 0) (.slice none 0 0) w15 fun w18=>
 Rduis w18 k4 fun nr4_0_2 nr4_1_2 pr4_2_2 lr4_2_2 cr4_2_2=>
 R (.tuple #[Aguis nr4_0_2 nr4_1_2 pr4_2_2 lr4_2_2 cr4_2_2,.int .i64 31]) w18) (
 C0 177 #[.slice p1 l1 c1,.string (ByteArray.mk #[])] w15 fun s51 w19=>
 C16 149 #[.string s51] w19 fun n52 w20=>
 Br (n52 != n13_1) (
 St3 k4 (.int .u64 0) (.int .i64 0) (.slice none 0 0) w20 fun w23=>
 Rduis w23 k4 fun nr4_0_3 nr4_1_3 pr4_2_3 lr4_2_3 cr4_2_3=>
 R (.tuple #[Aguis nr4_0_3 nr4_1_3 pr4_2_3 lr4_2_3 cr4_2_3,.int .i64 80]) w23) (
 Rduis w20 k6 fun n56_0 n56_1 p56_2 l56_2 c56_2=>
 St3 k4 (.int .u64 n56_0) (.int .i64 n56_1) (.slice p56_2 l56_2 c56_2) w20 fun w26=>
 Rduis w26 k4 fun nr4_0_4 nr4_1_4 pr4_2_4 lr4_2_4 cr4_2_4=>
 R (.tuple #[Aguis nr4_0_4 nr4_1_4 pr4_2_4 lr4_2_4 cr4_2_4,.int .i64 0]) w26)))))
theorem record_Decode_calls {s0:ByteArray}{p1:Option Addr}{l1 c1:Nat}(h:record_Decode s0 p1 l1 c1 w R):Calls Tp 153 #[.string s0,.slice p1 l1 c1] w (RT R):=fnE (pl:=(.s .o (.s .o (.s .o (.s (.s .o (.b (.l [(32,.one (.int .i64))] .o))) .o))))) callable Tryz.func153 h (by kernel_rfl)
def strings_HasPrefix (s0 s1:ByteArray) (w:World) (R:Value→World→Prop):Prop:=
 C2 209 #[.string s0,.string s1] w fun b7 w1=>
 R (.bool b7) w1
theorem strings_HasPrefix_calls {s0 s1:ByteArray}(h:strings_HasPrefix s0 s1 w R):Calls Tp 160 #[.string s0,.string s1] w (RT R):=fnE (pl:=.o) callable Tryz.func160 h (by kernel_rfl)
def record_May (n0_0 n0_1:Int) (p0_2:Option Addr) (l0_2 c0_2:Nat) (w:World) (R:Value→World→Prop):Prop:=
 Alloc #[.int .u64 n0_0,.int .i64 n0_1,.slice p0_2 l0_2 c0_2] 75 w fun k1 w1=>
 Rduis w1 k1 fun n3_0 n3_1 p3_2 l3_2 c3_2=>
 C2 201 #[Aguis n3_0 n3_1 p3_2 l3_2 c3_2] w1 fun b4 w2=>
 Br b4 (
 Rduis w2 k1 fun n6_0 n6_1 p6_2 l6_2 c6_2=>
 C2 202 #[Aguis n6_0 n6_1 p6_2 l6_2 c6_2] w2 fun b7 w3=>
 R (.bool b7) w3) (
 R (.bool false) w2)
theorem record_May_calls {n0_0 n0_1:Int}{p0_2:Option Addr}{l0_2 c0_2:Nat}(h:record_May n0_0 n0_1 p0_2 l0_2 c0_2 w R):Calls Tp 175 #[Aguis n0_0 n0_1 p0_2 l0_2 c0_2] w (RT R):=fnE (pl:=.o) callable Tryz.func175 h (by kernel_rfl)
def record_Record_head (n0_0 n0_1:Int) (p0_2:Option Addr) (l0_2 c0_2:Nat) (n1:Int) (w:World) (R:Value→World→Prop):Prop:=
 Alloc #[.int .u64 n0_0,.int .i64 n0_1,.slice p0_2 l0_2 c0_2] 75 w fun k2 w1=>
 Alloc #[.pointer none,.slice none 0 0] 236 w1 fun k5 w2=>
 Calls Tp 162 #[.pointer (some ⟨k5,0,none⟩),.string (ByteArray.mk #[82,86,84,74])] w2 fun e w3=>∃n10_0:Int,∃v10_1:Value,e=.returned (.tuple #[.int .i64 n10_0,v10_1])∧
 ∃n12:Int,w3.cell? ⟨k2,0,none⟩=some (.int .u64 n12)∧
 ∃n14:Int,w3.cell? ⟨k2,1,none⟩=some (.int .i64 n14)∧
 ∃(p17:Option Addr) (l17 c17:Nat),w3.cell? ⟨k2,2,none⟩=some (.slice p17 l17 c17)∧
 Alloc #[.int .u64 n12,.int .u64 8,.int .u64 (IntKind.u64.wrap n14),.int .u64 2,.int .u64 (IntKind.u64.wrap (l17:Int)),.int .u64 1,.int .u64 (IntKind.u64.wrap n1),.int .u64 4] 70 w3 fun k22 w4=>
 C0 216 #[.slice (some ⟨k22,0,none⟩) 8 8] w4 fun s23 w5=>
 Calls Tp 162 #[.pointer (some ⟨k5,0,none⟩),.string s23] w5 fun e_2 w6=>∃n24_0:Int,∃v24_1:Value,e_2=.returned (.tuple #[.int .i64 n24_0,v24_1])∧
 ∃(p26:Option Addr) (l26 c26:Nat),w6.cell? ⟨k2,2,none⟩=some (.slice p26 l26 c26)∧
 LoopP (fun I=>I [.int .i64 0] w6) fun K vs w7=>∃n28:Int,vs=[.int .i64 n28]∧
 Br (decide (n28<(l26:Int))) (
 ∃a30:Addr,p26=some a30∧(0:Int)≤n28∧n28<(l26:Int)∧
 ∃n31_0 n31_1:Int,∃s31_2:ByteArray,(w7.cell? (Addr.add a30 (n28.toNat*3))=some (.int .i64 n31_0)∧w7.cell? (Addr.add (Addr.add a30 (n28.toNat*3)) 1)=some (.int .i64 n31_1)∧w7.cell? (Addr.add (Addr.add a30 (n28.toNat*3)) 2)=some (.string s31_2))∧
 Alloc #[.int .i64 0,.int .i64 0,.string (ByteArray.mk #[])] 64 w7 fun k7 w8=>
 St3 k7 (.int .i64 n31_0) (.int .i64 n31_1) (.string s31_2) w8 fun w11=>
 ∃n33:Int,w11.cell? ⟨k7,0,none⟩=some (.int .i64 n33)∧
 ∃n36:Int,w11.cell? ⟨k7,1,none⟩=some (.int .i64 n36)∧
 Calls Tp 217 #[.pointer (some ⟨k5,0,none⟩),.int .u8 (IntKind.u8.wrap (bits2 .or .i64 (IntKind.i64.wrap (n33*2 ^ 2)) n36))] w11 fun e_3 w12=>∃v39:Value,e_3=.returned v39∧
 K [.int .i64 (IntKind.i64.wrap (n28+1))] w12) (
 C0 164 #[.pointer (some ⟨k5,0,none⟩)] w7 fun s42 w13=>
 C13 130 #[.string s42,.int .i64 64] w13 fun s43_0 b43_1 w14=>
 R (.string s43_0) w14)
theorem record_Record_head_calls {n0_0 n0_1:Int}{p0_2:Option Addr}{l0_2 c0_2:Nat}{n1:Int}(h:record_Record_head n0_0 n0_1 p0_2 l0_2 c0_2 n1 w R):Calls Tp 176 #[Aguis n0_0 n0_1 p0_2 l0_2 c0_2,.int .u32 n1] w (RT R):=fnE (pl:=(.s .o (.s .o (.s .o (.s .o (.s (.s .o (.b (.l [(28,.one (.int .i64))] .o))) .o)))))) callable Tryz.func176 h (by kernel_rfl)
def strings_Join (p0:Option Addr) (l0 c0:Nat) (s1:ByteArray) (w:World) (R:Value→World→Prop):Prop:=
 Br ((l0:Int)==0) (
 R (.string (ByteArray.mk #[])) w) (
 Br ((l0:Int)==1) (
 ∃a18:Addr,p0=some a18∧(0:Int)≤0∧0<(l0:Int)∧
 ∃s19:ByteArray,w.cell? a18=some (.string s19)∧
 R (.string s19) w) (
 Join (fun vs w1=>∃n5:Int,vs=[.int .i64 n5]∧
 LoopP (fun I=>I [.int .i64 n5,.int .i64 0] w1) fun K vs_1 w2=>∃n5_1 n41:Int,vs_1=[.int .i64 n5_1,.int .i64 n41]∧
 Br (decide (n41<(l0:Int))) (
 ∃a43:Addr,p0=some a43∧(0:Int)≤n41∧n41<(l0:Int)∧
 ∃s44:ByteArray,w2.cell? (Addr.add a43 (n41.toNat*1))=some (.string s44)∧
 Br (decide ((s44.size:Int)>(IntKind.i64.wrap (9223372036854775807-n5_1)))) (
 False) (
 K [.int .i64 (IntKind.i64.wrap (n5_1+(s44.size:Int))),.int .i64 (IntKind.i64.wrap (n41+1))] w2)) (
 Alloc #[.pointer none,.slice none 0 0] 236 w2 fun k8 w3=>
 Calls Tp 161 #[.pointer (some ⟨k8,0,none⟩),.int .i64 n5_1] w3 fun e w4=>e=.returned (.tuple #[])∧
 ∃a59:Addr,p0=some a59∧(0:Int)≤0∧0<(l0:Int)∧
 ∃s60:ByteArray,w4.cell? a59=some (.string s60)∧
 Calls Tp 162 #[.pointer (some ⟨k8,0,none⟩),.string s60] w4 fun e_1 w5=>∃n61_0:Int,∃v61_1:Value,e_1=.returned (.tuple #[.int .i64 n61_0,v61_1])∧
 ∃(p63:Option Addr) (l63 c63:Nat),∃w6,(Instr.sliceAt 54 (.slice p0 l0 c0) (some (.int .i64 1)) none none).run Tp w5=.ok (.slice p63 l63 c63) w6∧
 LoopP (fun I_1=>I_1 [.int .i64 0] w6) fun K_1 vs_2 w7=>∃n65:Int,vs_2=[.int .i64 n65]∧
 Br (decide (n65<(l63:Int))) (
 ∃a67:Addr,p63=some a67∧(0:Int)≤n65∧n65<(l63:Int)∧
 ∃s68:ByteArray,w7.cell? (Addr.add a67 (n65.toNat*1))=some (.string s68)∧
 Calls Tp 162 #[.pointer (some ⟨k8,0,none⟩),.string s1] w7 fun e_2 w8=>∃n70_0:Int,∃v70_1:Value,e_2=.returned (.tuple #[.int .i64 n70_0,v70_1])∧
 Calls Tp 162 #[.pointer (some ⟨k8,0,none⟩),.string s68] w8 fun e_3 w9=>∃n72_0:Int,∃v72_1:Value,e_3=.returned (.tuple #[.int .i64 n72_0,v72_1])∧
 K_1 [.int .i64 (IntKind.i64.wrap (n65+1))] w9) (
 C0 164 #[.pointer (some ⟨k8,0,none⟩)] w7 fun s74 w10=>
 R (.string s74) w10))) fun J=>
 Br (decide ((s1.size:Int)>0)) (
 (IntKind.i64.wrap ((l0:Int)-1))≠0∧
 ((decide ((s1.size:Int)≥(IntKind.i64.wrap (Int.tdiv 9223372036854775807 (IntKind.i64.wrap ((l0:Int)-1))))))=true→
 False)∧
 ((decide ((s1.size:Int)≥(IntKind.i64.wrap (Int.tdiv 9223372036854775807 (IntKind.i64.wrap ((l0:Int)-1))))))=false→
 J [.int .i64 (IntKind.i64.wrap (0+(IntKind.i64.wrap ((s1.size:Int)*(IntKind.i64.wrap ((l0:Int)-1))))))] w)) (
 J [.int .i64 0] w)))
def row_place_column (n0_0 n0_1 n0_2:Int) (p0_3:Option Addr) (l0_3 c0_3:Nat) (p0_4:Option Addr) (l0_4 c0_4:Nat) (n0_5 n0_6 n1:Int) (w:World) (R:Value→World→Prop):Prop:=
 Alloc #[.int .i64 n0_0,.int .i64 n0_1,.int .i64 n0_2,.slice p0_3 l0_3 c0_3,.slice p0_4 l0_4 c0_4,.int .i64 n0_5,.int .i64 n0_6] 108 w fun k2 w1=>
 ∃n11:Int,w1.cell? ⟨k2,0,none⟩=some (.int .i64 n11)∧
 ((decide (n1<(IntKind.i64.wrap ((IntKind.i64.wrap (n11-1))-1))))=true→
 Rdiii w1 k2 fun n19_0 n19_1 n19_2=>
 ∃n21:Int,w1.cell? ⟨k2,5,none⟩=some (.int .i64 n21)∧
 C3 218 #[Agiii n19_0 n19_1 n19_2,.int .i64 n21,.int .i64 n1] w1 fun n23 w2=>
 R (.int .i64 n23) w2)∧
 ((decide (n1<(IntKind.i64.wrap ((IntKind.i64.wrap (n11-1))-1))))=false→
 Rdiii w1 k2 fun n27_0 n27_1 n27_2=>
 ∃n29:Int,w1.cell? ⟨k2,5,none⟩=some (.int .i64 n29)∧
 C17 219 #[Agiii n27_0 n27_1 n27_2,.int .i64 n29] w1 fun n30_0 n30_1 w3=>
 Br (decide (n1<(IntKind.i64.wrap (n11-1)))) (
 R (.int .i64 n30_0) w3) (
 R (.int .i64 n30_1) w3))
theorem row_place_column_calls {n0_0 n0_1 n0_2:Int}{p0_3:Option Addr}{l0_3 c0_3:Nat}{p0_4:Option Addr}{l0_4 c0_4:Nat}{n0_5 n0_6 n1:Int}(h:row_place_column n0_0 n0_1 n0_2 p0_3 l0_3 c0_3 p0_4 l0_4 c0_4 n0_5 n0_6 n1 w R):Calls Tp 178 #[Agiiissii n0_0 n0_1 n0_2 p0_3 l0_3 c0_3 p0_4 l0_4 c0_4 n0_5 n0_6,.int .i64 n1] w (RT R):=fnE (pl:=.o) callable Tryz.func178 h (by kernel_rfl)
def slices_Values_int_int_1 (v0:Value) (k1:Addr) (w:World) (R:Value→World→Prop):Prop:=
 ∃(p5:Option Addr) (l5 c5:Nat),w.cell? k1=some (.slice p5 l5 c5)∧
 LoopP (fun I=>I [.int .i64 0] w) fun K vs w1=>∃n7:Int,vs=[.int .i64 n7]∧
 Br (decide (n7<(l5:Int))) (
 ∃a9:Addr,p5=some a9∧(0:Int)≤n7∧n7<(l5:Int)∧
 ∃n10:Int,w1.cell? (Addr.add a9 (n7.toNat*1))=some (.int .i64 n10)∧
 CallF Tp v0 [.int .i64 n10] w1 fun e w2=>∃b13:Bool,e=.returned (.bool b13)∧
 Br (!b13) (
 R (.tuple #[]) w2) (
 K [.int .i64 (IntKind.i64.wrap (n7+1))] w2)) (
 R (.tuple #[]) w1)
theorem slices_Values_int_int_1_calls {v0:Value}{k1:Addr}(h:slices_Values_int_int_1 v0 k1 w R):Calls Tp 179 #[v0,.pointer (some k1)] w (RT R):=fnE (pl:=(.s .o (.b (.l [(7,.one (.int .i64))] .o)))) callable Tryz.func179 h (by kernel_rfl)
def slices_Index_int_int (p0:Option Addr) (l0 c0:Nat) (n1:Int) (w:World) (R:Value→World→Prop):Prop:=
 LoopP (fun I=>I [.int .i64 0] w) fun K vs w1=>∃n8:Int,vs=[.int .i64 n8]∧
 Br (decide (n8<(l0:Int))) (
 ∃a14:Addr,p0=some a14∧(0:Int)≤n8∧n8<(l0:Int)∧
 ∃n15:Int,w1.cell? (Addr.add a14 (n8.toNat*1))=some (.int .i64 n15)∧
 Br (n1==n15) (
 R (.int .i64 n8) w1) (
 K [.int .i64 (IntKind.i64.wrap (n8+1))] w1)) (
 R (.int .i64 (-1)) w1)
theorem slices_Index_int_int_calls {p0:Option Addr}{l0 c0:Nat}{n1:Int}(h:slices_Index_int_int p0 l0 c0 n1 w R):Calls Tp 180 #[.slice p0 l0 c0,.int .i64 n1] w (RT R):=fnE (pl:=(.s .o (.s (.s .o (.b (.l [(8,.one (.int .i64))] .o))) .o))) callable Tryz.func180 h (by kernel_rfl)
def syndrome_Sum (p0:Option Addr) (l0 c0:Nat) (w:World) (R:Value→World→Prop):Prop:=
 Br (decide ((l0:Int)<2)) (
 R (.tuple #[.string (ByteArray.mk #[]),.string (ByteArray.mk #[])]) w) (
 ∃D:World→Prop,D w.drew∧
 ∃(p13:Option Addr) (l13 c13:Nat),(∀w,D w→(Instr.sliceAt 54 (.slice p0 l0 c0) none (some (.int .i64 (IntKind.i64.wrap ((l0:Int)-2)))) none).run Tp w=.ok (.slice p13 l13 c13) w)∧
 ∃(p18:Option Addr) (l18 c18:Nat),(∀w,D w→(Instr.sliceAt 54 (.slice p0 l0 c0) (some (.int .i64 (IntKind.i64.wrap ((l0:Int)-2)))) none none).run Tp w=.ok (.slice p18 l18 c18) w)∧
 ∃D_1:World→Prop,D_1 w.drew.drew∧
 C0 54 #[.slice p13 l13 c13] w.drew.drew fun s20 w1=>
 D_1 w1∧
 ∃a22:Addr,p18=some a22∧(0:Int)≤0∧0<(l18:Int)∧
 ∃s23:ByteArray,(∀w,D_1 w→w.cell? a22=some (.string s23))∧
 Alloc #[.string s20,.string s23] 9 w1 fun k24 w2=>
 D_1 w2∧
 C0 120 #[.slice (some ⟨k24,0,none⟩) 2 2] w2 fun s25 w3=>
 D_1 w3∧
 C0 55 #[.slice p13 l13 c13] w3 fun s27 w4=>
 D_1 w4∧
 ∃a29:Addr,p18=some a29∧(0:Int)≤1∧1<(l18:Int)∧
 ∃s30:ByteArray,(∀w,D_1 w→w.cell? (a29.add 1)=some (.string s30))∧
 Alloc #[.string s27,.string s30] 9 w4 fun k31 w5=>
 D_1 w5∧
 C0 120 #[.slice (some ⟨k31,0,none⟩) 2 2] w5 fun s32 w6=>
 D_1 w6∧
 R (.tuple #[.string s25,.string s32]) w6)
theorem syndrome_Sum_calls {p0:Option Addr}{l0 c0:Nat}(h:syndrome_Sum p0 l0 c0 w R):Calls Tp 181 #[.slice p0 l0 c0] w (RT R):=fnE (pl:=.o) callable Tryz.func181 h (by kernel_rfl)
def gf_Inv (n0:Int) (w:World) (R:Value→World→Prop):Prop:=
 Br (n0==0) (
 R (.tuple #[.int .u8 0,.bool false]) w) (
 C7 193 #[] w fun p7 w1=>
 ∃D:World→Prop,D w1.drew∧
 ∃a11:Addr,p7=some a11∧
 (0:Int)≤n0∧n0<(256:Int)∧
 ∃n14:Int,(∀w,D w→w.cell? (Addr.add (a11.add 514) (n0.toNat*1))=some (.int .i64 n14))∧
 C21 220 #[.pointer p7,.int .i64 (IntKind.i64.wrap (0-n14))] w1.drew fun n16 w2=>
 D w2∧
 ∃a18:Addr,p7=some a18∧
 C23 221 #[.pointer (some (a18.add 3))] w2 fun n20 w3=>
 D w3∧
 R (.tuple #[.int .u8 n16,.bool (n20==1)]) w3)
theorem gf_Inv_calls {n0:Int}(h:gf_Inv n0 w R):Calls Tp 182 #[.int .u8 n0] w (RT R):=fnE (pl:=.o) callable Tryz.func182 h (by kernel_rfl)
def gf_Exp (n0:Int) (w:World) (R:Value→World→Prop):Prop:=
 C7 193 #[] w fun p3 w1=>
 C21 220 #[.pointer p3,.int .i64 n0] w1 fun n5 w2=>
 R (.int .u8 n5) w2
theorem gf_Exp_calls {n0:Int}(h:gf_Exp n0 w R):Calls Tp 183 #[.int .i64 n0] w (RT R):=fnE (pl:=.o) callable Tryz.func183 h (by kernel_rfl)
def gf_Xor (s0 s1:ByteArray) (w:World) (R:Value→World→Prop):Prop:=
 Join (fun vs w1=>∃s0_1:ByteArray,∃s1_1:ByteArray,vs=[.string s0_1,.string s1_1]∧
 ∃(p15:Option Addr) (l15 c15:Nat),∃w2,(convert 9 86 (.string s0_1)).run Tp w1=.ok (.slice p15 l15 c15) w2∧
 LoopP (fun I=>I [.int .i64 0] w2) fun K vs_1 w3=>∃n18:Int,vs_1=[.int .i64 n18]∧
 Br (decide (n18<(s1_1.size:Int))) (
 ∃D:World→Prop,D w3.drew∧
 ∃a23:Addr,p15=some a23∧(0:Int)≤n18∧n18<(l15:Int)∧
 ∃n24:Int,(∀w,D w→w.cell? (Addr.add a23 (n18.toNat*1))=some (.int .u8 n24))∧
 ∃n27:Int,(∀w,D w→(Instr.index 9 (.string s1_1) (.int .i64 n18)).run Tp w=.ok (.int .u8 n27) w)∧
 ∃a29:Addr,p15=some a29∧(0:Int)≤n18∧n18<(l15:Int)∧
 St (Addr.add a29 (n18.toNat*1)) (.int .u8 (bits2 .xor .u8 n24 n27)) w3.drew fun w4=>
 K [.int .i64 (IntKind.i64.wrap (n18+1))] w4) (
 ∃s32:ByteArray,∃w5,(convert 86 9 (.slice p15 l15 c15)).run Tp w3=.ok (.string s32) w5∧
 R (.string s32) w5)) fun J=>
 Br (decide ((s0.size:Int)<(s1.size:Int))) (
 J [.string s1,.string s0] w) (
 J [.string s0,.string s1] w)
theorem gf_Xor_calls {s0 s1:ByteArray}(h:gf_Xor s0 s1 w R):Calls Tp 184 #[.string s0,.string s1] w (RT R):=fnE (pl:=(.s .o (.j [(0,.one .str),(1,.one .str)] .o (.s .o (.s (.s .o (.b (.l [(18,.one (.int .i64))] .o))) .o))))) callable Tryz.func184 h (by kernel_rfl)
def layout_plan_first (n0_0 n0_1 n0_2 n1:Int) (w:World) (R:Value→World→Prop):Prop:=
 Alloc #[.int .i64 n0_0,.int .i64 n0_1,.int .i64 n0_2] 211 w fun k2 w1=>
 ∃D:World→Prop,D w1.drew∧
 ∃n7:Int,(∀w,D w→w.cell? ⟨k2,0,none⟩=some (.int .i64 n7))∧
 ∃n12:Int,(∀w,D w→w.cell? ⟨k2,0,none⟩=some (.int .i64 n12))∧
 n12≠0∧
 ∃n17:Int,(∀w,D w→w.cell? ⟨k2,0,none⟩=some (.int .i64 n17))∧
 n17≠0∧
 R (.int .i64 (Int.tmod (IntKind.i64.wrap ((IntKind.i64.wrap (2*n7))-(Int.tmod n1 n12))) n17)) w1.drew
theorem layout_plan_first_calls {n0_0 n0_1 n0_2 n1:Int}(h:layout_plan_first n0_0 n0_1 n0_2 n1 w R):Calls Tp 187 #[Agiii n0_0 n0_1 n0_2,.int .i64 n1] w (RT R):=fnE (pl:=.o) callable Tryz.func187 h (by kernel_rfl)
def syndrome_powers_1 (v0:Value) (w:World) (R:Value→World→Prop):Prop:=
 LoopP (fun I=>I [.int .u8 1] w) fun K vs w1=>∃n2:Int,vs=[.int .u8 n2]∧
 CallF Tp v0 [.int .u8 n2] w1 fun e w2=>∃b5:Bool,e=.returned (.bool b5)∧
 Br b5 (
 C21 192 #[.int .u8 n2,.int .u8 2] w2 fun n7 w3=>
 K [.int .u8 n7] w3) (
 R (.tuple #[]) w2)
theorem syndrome_powers_1_calls {v0:Value}(h:syndrome_powers_1 v0 w R):Calls Tp 191 #[v0] w (RT R):=fnE (pl:=(.s .o (.b (.l [(2,.one (.int .u8))] .o)))) callable Tryz.func191 h (by kernel_rfl)
def gf_Mul (n0 n1:Int) (w:World) (R:Value→World→Prop):Prop:=
 LoopP (fun I=>I [.int .u8 n0,.int .u8 n1,.int .u8 0] w) fun K vs w1=>∃n0_1 n1_1 n5:Int,vs=[.int .u8 n0_1,.int .u8 n1_1,.int .u8 n5]∧
 Br (decide (n1_1>0)) (
 Join (fun vs_1 w2=>∃n5_1:Int,vs_1=[.int .u8 n5_1]∧
 Br ((Int.fdiv n0_1 (2 ^ 7))==1) (
 K [.int .u8 (bits2 .xor .u8 (IntKind.u8.wrap (n0_1*2 ^ 1)) 29),.int .u8 (Int.fdiv n1_1 (2 ^ 1)),.int .u8 n5_1] w2) (
 K [.int .u8 (IntKind.u8.wrap (n0_1*2 ^ 1)),.int .u8 (Int.fdiv n1_1 (2 ^ 1)),.int .u8 n5_1] w2)) fun J=>
 Br ((bits2 .and .u8 n1_1 1)==1) (
 J [.int .u8 (bits2 .xor .u8 n5 n0_1)] w1) (
 J [.int .u8 n5] w1)) (
 R (.int .u8 n5) w1)
theorem gf_Mul_calls {n0 n1:Int}(h:gf_Mul n0 n1 w R):Calls Tp 192 #[.int .u8 n0,.int .u8 n1] w (RT R):=fnE (pl:=(.s .o (.s .o (.s (.b (.l [(0,.one (.int .u8)),(1,.one (.int .u8)),(5,.one (.int .u8))] (.s .o (.s (.b (.j [(5,.one (.int .u8))] .o .o)) .o)))) .o)))) callable Tryz.func192 h (by kernel_rfl)
def gf_fresh (w:World) (R:Value→World→Prop):Prop:=
 Alloc ((zc Tp 292).getD #[]) 292 w fun k1 w1=>
 C7 235 #[.pointer (some ⟨k1,0,none⟩)] w1 fun p2 w2=>
 R (.pointer p2) w2
theorem gf_fresh_calls (h:gf_fresh w R):Calls Tp 193 #[] w (RT R):=fnE (pl:=.o) callable Tryz.func193 h (by kernel_rfl)
def gf_tables_mul (p0:Option Addr) (n1 n2:Int) (w:World) (R:Value→World→Prop):Prop:=
 Br (n1==0) (
 R (.int .u8 0) w) (
 Br (n2==0) (
 R (.int .u8 0) w) (
 ∃D:World→Prop,D w.drew∧
 ∃a16:Addr,p0=some a16∧
 (0:Int)≤n1∧n1<(256:Int)∧
 ∃n19:Int,(∀w,D w→w.cell? (Addr.add (a16.add 514) (n1.toNat*1))=some (.int .i64 n19))∧
 ∃a22:Addr,p0=some a22∧
 (0:Int)≤n2∧n2<(256:Int)∧
 ∃n25:Int,(∀w,D w→w.cell? (Addr.add (a22.add 514) (n2.toNat*1))=some (.int .i64 n25))∧
 ∃a27:Addr,p0=some a27∧
 (0:Int)≤(IntKind.i64.wrap (n19+n25))∧(IntKind.i64.wrap (n19+n25))<(510:Int)∧
 ∃n30:Int,(∀w,D w→w.cell? (Addr.add (a27.add 4) ((IntKind.i64.wrap (n19+n25)).toNat*1))=some (.int .u8 n30))∧
 R (.int .u8 n30) w.drew))
theorem gf_tables_mul_calls {p0:Option Addr}{n1 n2:Int}(h:gf_tables_mul p0 n1 n2 w R):Calls Tp 194 #[.pointer p0,.int .u8 n1,.int .u8 n2] w (RT R):=fnE (pl:=.o) callable Tryz.func194 h (by kernel_rfl)
def pack_Fits (n0 n1:Int) (w:World) (R:Value→World→Prop):Prop:=
 Br (n1==8) (
 R (.bool true) w) (
 Br (decide (n1>0)) (
 Br (decide (n1<8)) (
 (0:Int)≤(IntKind.i64.wrap (8*n1))∧
 R (.bool ((Int.fdiv n0 (2 ^ (min (IntKind.i64.wrap (8*n1)).toNat 64)))==0)) w) (
 R (.bool false) w)) (
 R (.bool false) w))
theorem pack_Fits_calls {n0 n1:Int}(h:pack_Fits n0 n1 w R):Calls Tp 195 #[.int .u64 n0,.int .i64 n1] w (RT R):=fnE (pl:=.o) callable Tryz.func195 h (by kernel_rfl)
def layout_plan_good (n0_0 n0_1 n0_2:Int) (w:World) (R:Value→World→Prop):Prop:=
 Alloc #[.int .i64 n0_0,.int .i64 n0_1,.int .i64 n0_2] 211 w fun k1 w1=>
 Rdiii w1 k1 fun n4_0 n4_1 n4_2=>
 C3 135 #[Agiii n4_0 n4_1 n4_2] w1 fun n5 w2=>
 R (.bool (n5==0)) w2
theorem layout_plan_good_calls {n0_0 n0_1 n0_2:Int}(h:layout_plan_good n0_0 n0_1 n0_2 w R):Calls Tp 196 #[Agiii n0_0 n0_1 n0_2] w (RT R):=fnE (pl:=.o) callable Tryz.func196 h (by kernel_rfl)
def slices_IndexFunc_drive_Drive_drive_Drive (p0:Option Addr) (l0 c0:Nat) (v1:Value) (w:World) (R:Value→World→Prop):Prop:=
 LoopP (fun I=>I [.int .i64 0] w) fun K vs w1=>∃n8:Int,vs=[.int .i64 n8]∧
 Br (decide (n8<(l0:Int))) (
 ∃a14:Addr,p0=some a14∧(0:Int)≤n8∧n8<(l0:Int)∧
 ∃p15:Option Addr,w1.cell? (Addr.add a14 (n8.toNat*1))=some (.pointer p15)∧
 CallF Tp v1 [.pointer p15] w1 fun e w2=>∃b16:Bool,e=.returned (.bool b16)∧
 Br b16 (
 R (.int .i64 n8) w2) (
 K [.int .i64 (IntKind.i64.wrap (n8+1))] w2)) (
 R (.int .i64 (-1)) w1)
theorem slices_IndexFunc_drive_Drive_drive_Drive_calls {p0:Option Addr}{l0 c0:Nat}{v1:Value}(h:slices_IndexFunc_drive_Drive_drive_Drive p0 l0 c0 v1 w R):Calls Tp 197 #[.slice p0 l0 c0,v1] w (RT R):=fnE (pl:=(.s .o (.s (.s .o (.b (.l [(8,.one (.int .i64))] .o))) .o))) callable Tryz.func197 h (by kernel_rfl)
def crc_More (n0:Int) (s1:ByteArray) (w:World) (R:Value→World→Prop):Prop:=
 Calls Tp 236 #[] w fun e w1=>∃z9:Array Value,z9.size=16∧e=.returned (.agg z9)∧
 Alloc #[.int .u32 0,.int .u32 0,.int .u32 0,.int .u32 0,.int .u32 0,.int .u32 0,.int .u32 0,.int .u32 0,.int .u32 0,.int .u32 0,.int .u32 0,.int .u32 0,.int .u32 0,.int .u32 0,.int .u32 0,.int .u32 0] 304 w1 fun k5 w2=>
 ∃w3,(Instr.storeAt 304 (.pointer (some ⟨k5,0,none⟩)) (.agg z9)).run Tp w2=.ok () w3∧
 Alloc #[.int .u32 0] 215 w3 fun k6 w4=>
 St ⟨k6,0,none⟩ (.int .u32 (bits2 .xor .u32 IntKind.u32.max n0)) w4 fun w5=>
 LoopP (fun I=>I [.int .i64 0] w5) fun K vs w6=>∃n15:Int,vs=[.int .i64 n15]∧
 Br (decide (n15<(s1.size:Int))) (
 ∃D:World→Prop,D w6.drew∧
 ∃n18:Int,(∀w,D w→w.cell? ⟨k6,0,none⟩=some (.int .u32 n18))∧
 ∃n21:Int,(∀w,D w→(Instr.index 9 (.string s1) (.int .i64 n15)).run Tp w=.ok (.int .u8 n21) w)∧
 St ⟨k6,0,none⟩ (.int .u32 (bits2 .xor .u32 n18 (IntKind.u32.wrap n21))) w6.drew fun w7=>
 Calls Tp 237 #[.pointer (some ⟨k6,0,none⟩),.pointer (some ⟨k5,0,none⟩)] w7 fun e_1 w8=>e_1=.returned (.tuple #[])∧
 Calls Tp 237 #[.pointer (some ⟨k6,0,none⟩),.pointer (some ⟨k5,0,none⟩)] w8 fun e_2 w9=>e_2=.returned (.tuple #[])∧
 K [.int .i64 (IntKind.i64.wrap (n15+1))] w9) (
 ∃n29:Int,w6.cell? ⟨k6,0,none⟩=some (.int .u32 n29)∧
 R (.int .u32 (bits2 .xor .u32 IntKind.u32.max n29)) w6)
theorem crc_More_calls {n0:Int}{s1:ByteArray}(h:crc_More n0 s1 w R):Calls Tp 199 #[.int .u32 n0,.string s1] w (RT R):=fnE (pl:=(.s .o (.s .o (.s .o (.s .o (.s (.s .o (.b (.l [(15,.one (.int .i64))] .o))) .o)))))) callable Tryz.func199 h (by kernel_rfl)
def pack_places_1 (v0:Value) (k1:Addr) (w:World) (R:Value→World→Prop):Prop:=
 ∃(p6:Option Addr) (l6 c6:Nat),w.cell? k1=some (.slice p6 l6 c6)∧
 LoopP (fun I=>I [.int .i64 0] w) fun K vs w1=>∃n8:Int,vs=[.int .i64 n8]∧
 Br (decide (n8<(l6:Int))) (
 ∃a11:Addr,p6=some a11∧(0:Int)≤n8∧n8<(l6:Int)∧
 ∃n12:Int,w1.cell? (Addr.add a11 (n8.toNat*1))=some (.int .i64 n12)∧
 LoopP (fun I_1=>I_1 [.int .i64 0] w1) fun K_1 vs_1 w2=>∃n14:Int,vs_1=[.int .i64 n14]∧
 Br (decide (n14<n12)) (
 CallF Tp v0 [.int .i64 n8,.int .i64 (IntKind.i64.wrap (8*n14))] w2 fun e w3=>∃b21:Bool,e=.returned (.bool b21)∧
 Br (!b21) (
 R (.tuple #[]) w3) (
 K_1 [.int .i64 (IntKind.i64.wrap (n14+1))] w3)) (
 K [.int .i64 (IntKind.i64.wrap (n8+1))] w2)) (
 R (.tuple #[]) w1)
theorem pack_places_1_calls {v0:Value}{k1:Addr}(h:pack_places_1 v0 k1 w R):Calls Tp 200 #[v0,.pointer (some k1)] w (RT R):=fnE (pl:=(.s .o (.b (.l [(8,.one (.int .i64))] (.s .o (.s .o (.s (.b (.s .o (.s .o (.b (.l [(14,.one (.int .i64))] .o))))) .o))))))) callable Tryz.func200 h (by kernel_rfl)
def record_Record_placed (n0_0 n0_1:Int) (p0_2:Option Addr) (l0_2 c0_2:Nat) (w:World) (R:Value→World→Prop):Prop:=
 Alloc #[.int .u64 n0_0,.int .i64 n0_1,.slice p0_2 l0_2 c0_2] 75 w fun k1 w1=>
 ∃n8:Int,w1.cell? ⟨k1,1,none⟩=some (.int .i64 n8)∧
 Br (decide (n8<0)) (
 R (.bool false) w1) (
 ∃n12:Int,w1.cell? ⟨k1,1,none⟩=some (.int .i64 n12)∧
 Br (decide (n12≥256)) (
 R (.bool false) w1) (
 ∃(p17:Option Addr) (l17 c17:Nat),w1.cell? ⟨k1,2,none⟩=some (.slice p17 l17 c17)∧
 Br ((l17:Int)==0) (
 R (.bool false) w1) (
 ∃(p23:Option Addr) (l23 c23:Nat),w1.cell? ⟨k1,2,none⟩=some (.slice p23 l23 c23)∧
 Br (decide ((l23:Int)>40)) (
 R (.bool false) w1) (
 AllocM w1 fun k27 w2=>
 ∃(p29:Option Addr) (l29 c29:Nat),w2.cell? ⟨k1,2,none⟩=some (.slice p29 l29 c29)∧
 LoopP (fun I=>I [.int .i64 0] w2) fun K vs w3=>∃n31:Int,vs=[.int .i64 n31]∧
 Br (decide (n31<(l29:Int))) (
 ∃a33:Addr,p29=some a33∧(0:Int)≤n31∧n31<(l29:Int)∧
 ∃n34_0 n34_1:Int,∃s34_2:ByteArray,(w3.cell? (Addr.add a33 (n31.toNat*3))=some (.int .i64 n34_0)∧w3.cell? (Addr.add (Addr.add a33 (n31.toNat*3)) 1)=some (.int .i64 n34_1)∧w3.cell? (Addr.add (Addr.add a33 (n31.toNat*3)) 2)=some (.string s34_2))∧
 Alloc #[.int .i64 0,.int .i64 0,.string (ByteArray.mk #[])] 64 w3 fun k5 w4=>
 St3 k5 (.int .i64 n34_0) (.int .i64 n34_1) (.string s34_2) w4 fun w7=>
 ∃n36:Int,w7.cell? ⟨k5,0,none⟩=some (.int .i64 n36)∧
 ∃n38:Int,w7.cell? ⟨k5,1,none⟩=some (.int .i64 n38)∧
 Alloc #[.int .i64 0,.int .i64 0] 184 w7 fun k6 w8=>
 St ⟨k6,0,none⟩ (.int .i64 n36) w8 fun w9=>
 St ⟨k6,1,none⟩ (.int .i64 n38) w9 fun w10=>
 ∃n41:Int,w10.cell? ⟨k5,0,none⟩=some (.int .i64 n41)∧
 Br (decide (n41<0)) (
 R (.bool false) w10) (
 ∃n45:Int,w10.cell? ⟨k5,0,none⟩=some (.int .i64 n45)∧
 Br (decide (n45≥10)) (
 R (.bool false) w10) (
 ∃n50:Int,w10.cell? ⟨k5,1,none⟩=some (.int .i64 n50)∧
 Br (decide (n50<0)) (
 R (.bool false) w10) (
 ∃n55:Int,w10.cell? ⟨k5,1,none⟩=some (.int .i64 n55)∧
 Br (decide (n55≥4)) (
 R (.bool false) w10) (
 Rdii w10 k6 fun n60_0 n60_1=>
 ∃b61:Bool,∃w11,(Instr.lookup 306 (.map (some k27)) (.agg #[.int .i64 n60_0,.int .i64 n60_1]) false).run Tp w10=.ok (.bool b61) w11∧
 Br b61 (
 R (.bool false) w11) (
 Rdii w11 k6 fun n64_0 n64_1=>
 ∃w12,(Instr.mapUpdate 306 (.map (some k27)) (.agg #[.int .i64 n64_0,.int .i64 n64_1]) (.bool true)).run Tp w11=.ok () w12∧
 K [.int .i64 (IntKind.i64.wrap (n31+1))] w12)))))) (
 R (.bool true) w3)))))
theorem record_Record_placed_calls {n0_0 n0_1:Int}{p0_2:Option Addr}{l0_2 c0_2:Nat}(h:record_Record_placed n0_0 n0_1 p0_2 l0_2 c0_2 w R):Calls Tp 201 #[Aguis n0_0 n0_1 p0_2 l0_2 c0_2] w (RT R):=fnE (pl:=(.s .o (.s .o (.s .o (.s (.s .o (.b (.l [(31,.one (.int .i64))] .o))) .o))))) callable Tryz.func201 h (by kernel_rfl)
def record_Record_loaded (n0_0 n0_1:Int) (p0_2:Option Addr) (l0_2 c0_2:Nat) (w:World) (R:Value→World→Prop):Prop:=
 Alloc #[.int .u64 n0_0,.int .i64 n0_1,.slice p0_2 l0_2 c0_2] 75 w fun k1 w1=>
 ∃(p6:Option Addr) (l6 c6:Nat),w1.cell? ⟨k1,2,none⟩=some (.slice p6 l6 c6)∧
 LoopP (fun I=>I [.int .i64 0] w1) fun K vs w2=>∃n8:Int,vs=[.int .i64 n8]∧
 Br (decide (n8<(l6:Int))) (
 ∃a10:Addr,p6=some a10∧(0:Int)≤n8∧n8<(l6:Int)∧
 ∃n11_0 n11_1:Int,∃s11_2:ByteArray,(w2.cell? (Addr.add a10 (n8.toNat*3))=some (.int .i64 n11_0)∧w2.cell? (Addr.add (Addr.add a10 (n8.toNat*3)) 1)=some (.int .i64 n11_1)∧w2.cell? (Addr.add (Addr.add a10 (n8.toNat*3)) 2)=some (.string s11_2))∧
 Alloc #[.int .i64 0,.int .i64 0,.string (ByteArray.mk #[])] 64 w2 fun k4 w3=>
 St3 k4 (.int .i64 n11_0) (.int .i64 n11_1) (.string s11_2) w3 fun w6=>
 ∃s13:ByteArray,w6.cell? ⟨k4,2,none⟩=some (.string s13)∧
 Br ((s13.size:Int) != 64) (
 R (.bool false) w6) (
 K [.int .i64 (IntKind.i64.wrap (n8+1))] w6)) (
 R (.bool true) w2)
theorem record_Record_loaded_calls {n0_0 n0_1:Int}{p0_2:Option Addr}{l0_2 c0_2:Nat}(h:record_Record_loaded n0_0 n0_1 p0_2 l0_2 c0_2 w R):Calls Tp 202 #[Aguis n0_0 n0_1 p0_2 l0_2 c0_2] w (RT R):=fnE (pl:=(.s .o (.s (.s .o (.b (.l [(8,.one (.int .i64))] .o))) .o))) callable Tryz.func202 h (by kernel_rfl)
def internal_stringslite_HasPrefix (s0 s1:ByteArray) (w:World) (R:Value→World→Prop):Prop:=
 Br (decide ((s0.size:Int)≥(s1.size:Int))) (
 ∃s14:ByteArray,∃w1,(Instr.sliceAt 9 (.string s0) none (some (.int .i64 (s1.size:Int))) none).run Tp w=.ok (.string s14) w1∧
 R (.bool (s14.toList==s1.toList)) w1) (
 R (.bool false) w)
theorem internal_stringslite_HasPrefix_calls {s0 s1:ByteArray}(h:internal_stringslite_HasPrefix s0 s1 w R):Calls Tp 209 #[.string s0,.string s1] w (RT R):=fnE (pl:=.o) callable Tryz.func209 h (by kernel_rfl)
def record_packed (p0:Option Addr) (l0 c0:Nat) (w:World) (R:Value→World→Prop):Prop:=
 LoopP (fun I=>I [.slice none 0 0,.slice none 0 0,.int .i64 0] w) fun K vs w1=>∃(p3:Option Addr) (l3 c3:Nat),∃(p4:Option Addr) (l4 c4:Nat),∃n5:Int,vs=[.slice p3 l3 c3,.slice p4 l4 c4,.int .i64 n5]∧
 Br (decide ((IntKind.i64.wrap (n5+1))<(l0:Int))) (
 ∃D:World→Prop,D w1.drew∧
 ∃a18:Addr,p0=some a18∧(0:Int)≤n5∧n5<(l0:Int)∧
 ∃n19:Int,(∀w,D w→w.cell? (Addr.add a18 (n5.toNat*1))=some (.int .u64 n19))∧
 ∃a26:Addr,p0=some a26∧(0:Int)≤IntKind.i64.wrap (n5+1)∧(IntKind.i64.wrap (n5+1))<(l0:Int)∧
 ∃n27:Int,(∀w,D w→w.cell? (Addr.add a26 ((IntKind.i64.wrap (n5+1)).toNat*1))=some (.int .u64 n27))∧
 (Alloc #[.int .u64 n19] 70 w1.drew fun k20 w2=>
 D w2∧
 (∃(p21:Option Addr) (l21 c21:Nat),∃w3,(builtin .append #[155,155] 155 #[false,false] #[.slice p3 l3 c3,.slice (some ⟨k20,0,none⟩) 1 1]).run Tp w2=.ok (.value (.slice p21 l21 c21)) w3∧
 D w3∧
 Alloc #[.int .i64 (IntKind.i64.wrap n27)] 3 w3 fun k29 w4=>
 D w4∧
 ∃(p30:Option Addr) (l30 c30:Nat),∃w5,(builtin .append #[29,29] 29 #[false,false] #[.slice p4 l4 c4,.slice (some ⟨k29,0,none⟩) 1 1]).run Tp w4=.ok (.value (.slice p30 l30 c30)) w5∧
 D w5∧
 K [.slice p21 l21 c21,.slice p30 l30 c30,.int .i64 (IntKind.i64.wrap (n5+2))] w5)∧
 (Alloc #[.int .i64 (IntKind.i64.wrap n27)] 3 w2 fun k29_1 w6=>
 D w6∧
 ∃(p21_1:Option Addr) (l21_1 c21_1:Nat),∃w7,(builtin .append #[155,155] 155 #[false,false] #[.slice p3 l3 c3,.slice (some ⟨k20,0,none⟩) 1 1]).run Tp w6=.ok (.value (.slice p21_1 l21_1 c21_1)) w7∧
 D w7∧
 ∃(p30_1:Option Addr) (l30_1 c30_1:Nat),∃w8,(builtin .append #[29,29] 29 #[false,false] #[.slice p4 l4 c4,.slice (some ⟨k29_1,0,none⟩) 1 1]).run Tp w7=.ok (.value (.slice p30_1 l30_1 c30_1)) w8∧
 D w8∧
 K [.slice p21_1 l21_1 c21_1,.slice p30_1 l30_1 c30_1,.int .i64 (IntKind.i64.wrap (n5+2))] w8))∧
 (Alloc #[.int .i64 (IntKind.i64.wrap n27)] 3 w1.drew fun k29_2 w9=>
 D w9∧
 Alloc #[.int .u64 n19] 70 w9 fun k20_1 w10=>
 D w10∧
 ∃(p21_2:Option Addr) (l21_2 c21_2:Nat),∃w11,(builtin .append #[155,155] 155 #[false,false] #[.slice p3 l3 c3,.slice (some ⟨k20_1,0,none⟩) 1 1]).run Tp w10=.ok (.value (.slice p21_2 l21_2 c21_2)) w11∧
 D w11∧
 ∃(p30_2:Option Addr) (l30_2 c30_2:Nat),∃w12,(builtin .append #[29,29] 29 #[false,false] #[.slice p4 l4 c4,.slice (some ⟨k29_2,0,none⟩) 1 1]).run Tp w11=.ok (.value (.slice p30_2 l30_2 c30_2)) w12∧
 D w12∧
 K [.slice p21_2 l21_2 c21_2,.slice p30_2 l30_2 c30_2,.int .i64 (IntKind.i64.wrap (n5+2))] w12)) (
 C6 129 #[.slice p3 l3 c3,.slice p4 l4 c4] w1 fun s34_0 n34_1 w13=>
 R (.string s34_0) w13)
theorem record_packed_calls {p0:Option Addr}{l0 c0:Nat}(h:record_packed p0 l0 c0 w R):Calls Tp 216 #[.slice p0 l0 c0] w (RT R):=fnE (pl:=(.s .o (.s .o (.s .o (.s (.s .o (.b (.l [(3,.one .slice),(4,.one .slice),(5,.one (.int .i64))] .o))) .o))))) callable Tryz.func216 h (by kernel_rfl)
def layout_Column (n0_0 n0_1 n0_2 n1 n2:Int) (w:World) (R:Value→World→Prop):Prop:=
 Alloc #[.int .i64 n0_0,.int .i64 n0_1,.int .i64 n0_2] 26 w fun k3 w1=>
 Rdiii w1 k3 fun n8_0 n8_1 n8_2=>
 Alloc #[.int .i64 0,.int .i64 0,.int .i64 0] 211 w1 fun k7 w2=>
 St3 k7 (.int .i64 n8_0) (.int .i64 n8_1) (.int .i64 n8_2) w2 fun w5=>
 ∃D:World→Prop,D w5.drew∧
 RDiii D k7 fun n10_0 n10_1 n10_2=>
 RDiii D k7 fun n13_0 n13_1 n13_2=>
 C3 248 #[Agiii n13_0 n13_1 n13_2] w5.drew fun n14 w6=>
 D w6∧
 C2 140 #[Agiii n10_0 n10_1 n10_2,.int .i64 n1,.int .i64 n2,.int .i64 n14] w6 fun b15 w7=>
 D w7∧
 Br (!b15) (
 R (.int .i64 0) w7) (
 ∃D_1:World→Prop,D_1 w7.drew∧
 RDiii D_1 k7 fun n17_0 n17_1 n17_2=>
 C3 187 #[Agiii n17_0 n17_1 n17_2,.int .i64 n1] w7.drew fun n19 w8=>
 D_1 w8∧
 ∃n25:Int,(∀w,D_1 w→w.cell? ⟨k7,0,none⟩=some (.int .i64 n25))∧
 n25≠0∧
 R (.int .i64 (Int.tmod (IntKind.i64.wrap ((IntKind.i64.wrap (n19+1))+n2)) n25)) w8)
theorem layout_Column_calls {n0_0 n0_1 n0_2 n1 n2:Int}(h:layout_Column n0_0 n0_1 n0_2 n1 n2 w R):Calls Tp 218 #[Agiii n0_0 n0_1 n0_2,.int .i64 n1,.int .i64 n2] w (RT R):=fnE (pl:=.o) callable Tryz.func218 h (by kernel_rfl)
def layout_Parity (n0_0 n0_1 n0_2 n1:Int) (w:World) (R:Value→World→Prop):Prop:=
 Alloc #[.int .i64 n0_0,.int .i64 n0_1,.int .i64 n0_2] 26 w fun k2 w1=>
 Rdiii w1 k2 fun n8_0 n8_1 n8_2=>
 Alloc #[.int .i64 0,.int .i64 0,.int .i64 0] 211 w1 fun k6 w2=>
 St3 k6 (.int .i64 n8_0) (.int .i64 n8_1) (.int .i64 n8_2) w2 fun w5=>
 Rdiii w5 k6 fun n10_0 n10_1 n10_2=>
 C2 140 #[Agiii n10_0 n10_1 n10_2,.int .i64 n1,.int .i64 0,.int .i64 1] w5 fun b12 w6=>
 Br (!b12) (
 R (.tuple #[.int .i64 0,.int .i64 0]) w6) (
 Rdiii w6 k6 fun n14_0 n14_1 n14_2=>
 C3 187 #[Agiii n14_0 n14_1 n14_2,.int .i64 n1] w6 fun n16 w7=>
 ∃n20:Int,w7.cell? ⟨k6,0,none⟩=some (.int .i64 n20)∧
 ∃n25:Int,w7.cell? ⟨k6,0,none⟩=some (.int .i64 n25)∧
 n25≠0∧
 R (.tuple #[.int .i64 (Int.tmod (IntKind.i64.wrap ((IntKind.i64.wrap (n16+n20))-1)) n25),.int .i64 n16]) w7)
theorem layout_Parity_calls {n0_0 n0_1 n0_2 n1:Int}(h:layout_Parity n0_0 n0_1 n0_2 n1 w R):Calls Tp 219 #[Agiii n0_0 n0_1 n0_2,.int .i64 n1] w (RT R):=fnE (pl:=.o) callable Tryz.func219 h (by kernel_rfl)
def gf_tables_power (p0:Option Addr) (n1:Int) (w:World) (R:Value→World→Prop):Prop:=
 ∃a10:Addr,p0=some a10∧
 (0:Int)≤(Int.tmod (IntKind.i64.wrap ((Int.tmod n1 255)+255)) 255)∧(Int.tmod (IntKind.i64.wrap ((Int.tmod n1 255)+255)) 255)<(510:Int)∧
 ∃n13:Int,w.cell? (Addr.add (a10.add 4) ((Int.tmod (IntKind.i64.wrap ((Int.tmod n1 255)+255)) 255).toNat*1))=some (.int .u8 n13)∧
 R (.int .u8 n13) w
theorem gf_tables_power_calls {p0:Option Addr}{n1:Int}(h:gf_tables_power p0 n1 w R):Calls Tp 220 #[.pointer p0,.int .i64 n1] w (RT R):=fnE (pl:=.o) callable Tryz.func220 h (by kernel_rfl)
def gf_tables_ready (p0:Option Addr) (w:World) (R:Value→World→Prop):Prop:=
 ∃a4:Addr,p0=some a4∧
 Calls Tp 256 #[.pointer (some a4),.func (.func 257) #[.pointer p0] #[]] w fun e w1=>e=.returned (.tuple #[])∧
 R (.pointer p0) w1
theorem gf_tables_ready_calls {p0:Option Addr}(h:gf_tables_ready p0 w R):Calls Tp 235 #[.pointer p0] w (RT R):=fnE (pl:=.o) callable Tryz.func235 h (by kernel_rfl)
def crc_table (w:World) (R:Value→World→Prop):Prop:=
 Alloc #[.int .u32 0,.int .u32 0,.int .u32 0,.int .u32 0,.int .u32 0,.int .u32 0,.int .u32 0,.int .u32 0,.int .u32 0,.int .u32 0,.int .u32 0,.int .u32 0,.int .u32 0,.int .u32 0,.int .u32 0,.int .u32 0] 304 w fun k0 w1=>
 Alloc #[.int .u32 0,.int .u32 0,.int .u32 0,.int .u32 0,.int .u32 0,.int .u32 0,.int .u32 0,.int .u32 0,.int .u32 0,.int .u32 0,.int .u32 0,.int .u32 0,.int .u32 0,.int .u32 0,.int .u32 0,.int .u32 0] 304 w1 fun k1 w2=>
 LoopP (fun I=>I [.int .i64 0] w2) fun K vs w3=>∃n4:Int,vs=[.int .i64 n4]∧
 Br (decide (n4<16)) (
 LoopP (fun I_1=>I_1 [.int .u32 (IntKind.u32.wrap n4),.int .i64 0] w3) fun K_1 vs_1 w4=>∃n3 n9:Int,vs_1=[.int .u32 n3,.int .i64 n9]∧
 Br (decide (n9<4)) (
 K_1 [.int .u32 (bits2 .xor .u32 (Int.fdiv n3 (2 ^ 1)) (IntKind.u32.wrap (2197175160*(bits2 .and .u32 n3 1)))),.int .i64 (IntKind.i64.wrap (n9+1))] w4) (
 (0:Int)≤n4∧n4<(16:Int)∧
 St (Addr.add ⟨k1,0,none⟩ (n4.toNat*1)) (.int .u32 n3) w4 fun w5=>
 K [.int .i64 (IntKind.i64.wrap (n4+1))] w5)) (
 ∃z22:Array Value,z22.size=16∧bigAt w3 ⟨k1,0,none⟩ z22∧
 ∃w6,(Instr.storeAt 304 (.pointer (some ⟨k0,0,none⟩)) (.agg z22)).run Tp w3=.ok () w6∧
 ∃zr0:Array Value,zr0.size=16∧bigAt w6 ⟨k0,0,none⟩ zr0∧
 R (.agg zr0) w6)
theorem crc_table_calls (h:crc_table w R):Calls Tp 236 #[] w (RT R):=fnE (pl:=(.s .o (.s .o (.s (.s .o (.b (.l [(4,.one (.int .i64))] (.s .o (.s .o (.s (.b (.s .o (.s .o (.s (.s .o (.b (.l [(3,.one (.int .u32)),(9,.one (.int .i64))] .o))) .o)))) .o)))))) .o)))) callable Tryz.func236 h (by kernel_rfl)
def crc_More_1 (k0:Addr) (k1:Addr) (w:World) (R:Value→World→Prop):Prop:=
 ∃D:World→Prop,D w.drew∧
 ∃n2:Int,(∀w,D w→w.cell? k0=some (.int .u32 n2))∧
 ∃n4:Int,(∀w,D w→w.cell? k0=some (.int .u32 n4))∧
 (0:Int)≤(bits2 .and .u32 n4 15)∧(bits2 .and .u32 n4 15)<(16:Int)∧
 ∃n7:Int,(∀w,D w→w.cell? (Addr.add k1 ((bits2 .and .u32 n4 15).toNat*1))=some (.int .u32 n7))∧
 St k0 (.int .u32 (bits2 .xor .u32 (Int.fdiv n2 (2 ^ 4)) n7)) w.drew fun w1=>
 R (.tuple #[]) w1
theorem crc_More_1_calls {k0:Addr}{k1:Addr}(h:crc_More_1 k0 k1 w R):Calls Tp 237 #[.pointer (some k0),.pointer (some k1)] w (RT R):=fnE (pl:=.o) callable Tryz.func237 h (by kernel_rfl)
def layout_plan_data (n0_0 n0_1 n0_2:Int) (w:World) (R:Value→World→Prop):Prop:=
 Alloc #[.int .i64 n0_0,.int .i64 n0_1,.int .i64 n0_2] 211 w fun k1 w1=>
 ∃n5:Int,w1.cell? ⟨k1,0,none⟩=some (.int .i64 n5)∧
 R (.int .i64 (IntKind.i64.wrap (n5-2))) w1
theorem layout_plan_data_calls {n0_0 n0_1 n0_2:Int}(h:layout_plan_data n0_0 n0_1 n0_2 w R):Calls Tp 248 #[Agiii n0_0 n0_1 n0_2] w (RT R):=fnE (pl:=.o) callable Tryz.func248 h (by kernel_rfl)
def gf_tables_make (p0:Option Addr) (w:World) (R:Value→World→Prop):Prop:=
 ∃a5:Addr,p0=some a5∧
 C23 263 #[.pointer (some (a5.add 3)),.int .i32 1] w fun n7 w1=>
 LoopP (fun I=>I [.int .i64 1,.int .i64 0] w1) fun K vs w2=>∃n2 n8:Int,vs=[.int .i64 n2,.int .i64 n8]∧
 Br (decide (n8<255)) (
 ∃D:World→Prop,D w2.drew∧
 ∃a20:Addr,p0=some a20∧
 (0:Int)≤n8∧n8<(510:Int)∧
 St (Addr.add (a20.add 4) (n8.toNat*1)) (.int .u8 (IntKind.u8.wrap n2)) w2.drew fun w3=>
 D w3∧
 ∃a23:Addr,p0=some a23∧
 (0:Int)≤(IntKind.i64.wrap (n8+255))∧(IntKind.i64.wrap (n8+255))<(510:Int)∧
 St (Addr.add (a23.add 4) ((IntKind.i64.wrap (n8+255)).toNat*1)) (.int .u8 (IntKind.u8.wrap n2)) w3 fun w4=>
 ∃a29:Addr,p0=some a29∧
 (0:Int)≤n2∧n2<(256:Int)∧
 St (Addr.add (a29.add 514) (n2.toNat*1)) (.int .i64 n8) w4 fun w5=>
 Br (decide ((IntKind.i64.wrap (n2*2 ^ 1))>255)) (
 K [.int .i64 (bits2 .xor .i64 (IntKind.i64.wrap (n2*2 ^ 1)) 285),.int .i64 (IntKind.i64.wrap (n8+1))] w5) (
 K [.int .i64 (IntKind.i64.wrap (n2*2 ^ 1)),.int .i64 (IntKind.i64.wrap (n8+1))] w5)) (
 R (.tuple #[]) w2)
theorem gf_tables_make_calls {p0:Option Addr}(h:gf_tables_make p0 w R):Calls Tp 257 #[.pointer p0] w (RT R):=fnE (pl:=(.s .o (.s .o (.s .o (.b (.l [(2,.one (.int .i64)),(8,.one (.int .i64))] .o)))))) callable Tryz.func257 h (by kernel_rfl)
def strings_Builder_WriteString (p0:Option Addr) (s1:ByteArray) (w:World) (R:Value→World→Prop):Prop:=
 Calls Tp 210 #[.pointer p0] w fun e w1=>e=.returned (.tuple #[])∧
 ∃a10:Addr,p0=some a10∧
 ∃(p12:Option Addr) (l12 c12:Nat),w1.cell? (a10.add 1)=some (.slice p12 l12 c12)∧
 ∃(p14:Option Addr) (l14 c14:Nat),∃w2,(builtin .append #[86,9] 86 #[false,false] #[.slice p12 l12 c12,.string s1]).run Tp w1=.ok (.value (.slice p14 l14 c14)) w2∧
 ∃a15:Addr,p0=some a15∧
 St (a15.add 1) (.slice p14 l14 c14) w2 fun w3=>
 R (.tuple #[.int .i64 (s1.size:Int),.nilIface]) w3
theorem strings_Builder_WriteString_calls {p0:Option Addr}{s1:ByteArray}(h:strings_Builder_WriteString p0 s1 w R):Calls Tp 162 #[.pointer p0,.string s1] w (RT R):=fnE (pl:=.o) callable Tryz.func162 h (by kernel_rfl)
def strings_Builder_WriteByte (p0:Option Addr) (n1:Int) (w:World) (R:Value→World→Prop):Prop:=
 Calls Tp 210 #[.pointer p0] w fun e w1=>e=.returned (.tuple #[])∧
 ∃a9:Addr,p0=some a9∧
 ∃(p11:Option Addr) (l11 c11:Nat),w1.cell? (a9.add 1)=some (.slice p11 l11 c11)∧
 Alloc #[.int .u8 n1] 5 w1 fun k13 w2=>
 ∃(p14:Option Addr) (l14 c14:Nat),∃w3,(builtin .append #[86,86] 86 #[false,false] #[.slice p11 l11 c11,.slice (some ⟨k13,0,none⟩) 1 1]).run Tp w2=.ok (.value (.slice p14 l14 c14)) w3∧
 ∃a15:Addr,p0=some a15∧
 St (a15.add 1) (.slice p14 l14 c14) w3 fun w4=>
 R (.nilIface) w4
theorem strings_Builder_WriteByte_calls {p0:Option Addr}{n1:Int}(h:strings_Builder_WriteByte p0 n1 w R):Calls Tp 217 #[.pointer p0,.int .u8 n1] w (RT R):=fnE (pl:=.o) callable Tryz.func217 h (by kernel_rfl)
end Go.Proofs.YtkknkmplmilihaaGreat
