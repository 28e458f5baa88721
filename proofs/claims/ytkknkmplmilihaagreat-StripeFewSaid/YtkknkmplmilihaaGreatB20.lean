import Derived.Test.YtkknkmplmilihaaGreatB2
import Derived.Test.YtkknkmplmilihaaGreatB19
namespace Go.Proofs.YtkknkmplmilihaaGreat
open Go.Sh
set_option linter.unusedVariables false
set_option maxRecDepth 100000
def revetmentlaw17_StripeFew (n0 n1 n2:Int) (p3:Option Addr) (l3 c3:Nat) (w:World) (R:Value→World→Prop):Prop:=
 Calls Tryz.prog 10 #[.slice p3 l3 c3] w fun e w1=>∃b21:Bool,e=.returned (.bool b21)∧
 Br b21 (
 Calls Tryz.prog 11 #[] w1 fun e_1 w2=>∃b26:Bool,e_1=.returned (.bool b26)∧
 R (.bool b26) w2) (
 Calls Tryz.prog 11 #[] w1 fun e_2 w3=>∃b23:Bool,e_2=.returned (.bool b23)∧
 Br (!b23) (
 Calls Tryz.prog 11 #[] w3 fun e_3 w4=>∃b26_1:Bool,e_3=.returned (.bool b26_1)∧
 R (.bool b26_1) w4) (
 Calls Tryz.prog 12 #[.int .u8 n0,.int .u8 n1,.int .u8 n2] w3 fun e_4 w5=>∃n30_0 n30_1 n30_2:Int,e_4=.returned ((Agiii n30_0 n30_1 n30_2))∧
 Alloc #[.int .i64 0,.int .i64 0,.int .i64 0] 26 w5 fun k9 w6=>
 St3 k9 (.int .i64 n30_0) (.int .i64 n30_1) (.int .i64 n30_2) w6 fun w9=>
 Rdiii w9 k9 fun n32_0 n32_1 n32_2=>
 Calls Tryz.prog 13 #[Agiii n32_0 n32_1 n32_2,.bool false] w9 fun e_5 w10=>∃n33_0_0 n33_0_1 n33_0_2:Int,∃(p33_0_3:Option Addr) (l33_0_3 c33_0_3:Nat),∃(p33_0_4:Option Addr) (l33_0_4 c33_0_4:Nat),∃n33_0_5 n33_0_6 n33_0_7:Int,∃(p33_0_8:Option Addr) (l33_0_8 c33_0_8:Nat),∃(p33_0_9:Option Addr) (l33_0_9 c33_0_9:Nat),∃p33_0_10:Option Addr,∃p33_0_11:Option Addr,∃p33_0_12:Option Addr,∃p33_0_13:Option Addr,∃b33_1:Bool,e_5=.returned (.tuple #[Agiiissiiisspppp n33_0_0 n33_0_1 n33_0_2 p33_0_3 l33_0_3 c33_0_3 p33_0_4 l33_0_4 c33_0_4 n33_0_5 n33_0_6 n33_0_7 p33_0_8 l33_0_8 c33_0_8 p33_0_9 l33_0_9 c33_0_9 p33_0_10 p33_0_11 p33_0_12 p33_0_13,.bool b33_1])∧
 Alloc #[.int .i64 0,.int .i64 0,.int .i64 0,.slice none 0 0,.slice none 0 0,.int .i64 0,.int .i64 0,.int .i64 0,.slice none 0 0,.slice none 0 0,.pointer none,.pointer none,.pointer none,.pointer none] 40 w10 fun k10 w11=>
 St14 k10 (.int .i64 n33_0_0) (.int .i64 n33_0_1) (.int .i64 n33_0_2) (.slice p33_0_3 l33_0_3 c33_0_3) (.slice p33_0_4 l33_0_4 c33_0_4) (.int .i64 n33_0_5) (.int .i64 n33_0_6) (.int .i64 n33_0_7) (.slice p33_0_8 l33_0_8 c33_0_8) (.slice p33_0_9 l33_0_9 c33_0_9) (.pointer p33_0_10) (.pointer p33_0_11) (.pointer p33_0_12) (.pointer p33_0_13) w11 fun w25=>
 Br (!b33_1) (
 R (.bool false) w25) (
 Rdiii w25 k9 fun n38_0 n38_1 n38_2=>
 Calls Tryz.prog 20 #[Agiii n38_0 n38_1 n38_2,.slice p3 l3 c3] w25 fun e_6 w26=>∃(p40:Option Addr) (l40 c40:Nat),e_6=.returned (.slice p40 l40 c40)∧
 Rdiiiss w26 k10 fun n43_0 n43_1 n43_2 p43_3 l43_3 c43_3 p43_4 l43_4 c43_4=>
 Calls Tryz.prog 21 #[Agiiiss n43_0 n43_1 n43_2 p43_3 l43_3 c43_3 p43_4 l43_4 c43_4,.int .i64 0,.slice p40 l40 c40] w26 fun e_7 w27=>∃(p45_0:Option Addr) (l45_0 c45_0:Nat),∃n45_1:Int,e_7=.returned (.tuple #[.slice p45_0 l45_0 c45_0,.int .i64 n45_1])∧
 Br (n45_1 != 0) (
 R (.bool false) w27) (
 AllocM w27 fun k50 w28=>
 LoopP (fun I=>I [.int .i64 0] w28) fun K vs w29=>∃n16:Int,vs=[.int .i64 n16]∧
 Br (decide (n16<(l40:Int))) (
 ∃a60:Addr,p40=some a60∧(0:Int)≤n16∧n16<(l40:Int)∧
 ∃n62:Int,w29.cell? (Addr.add (Addr.add a60 (n16.toNat*3)) 1)=some (.int .i64 n62)∧
 ∃w30,(Instr.mapUpdate 44 (.map (some k50)) (.int .i64 n62) (.bool true)).run Tryz.prog w29=.ok () w30∧
 K [.int .i64 (IntKind.i64.wrap (n16+1))] w30) (
 ∃n68:Int,∃w31,(builtin .len #[44] 3 #[false] #[.map (some k50)]).run Tryz.prog w29=.ok (.value (.int .i64 n68)) w31∧
 Br ((l45_0:Int) != (IntKind.i64.wrap ((l40:Int)+(IntKind.i64.wrap (2*n68))))) (
 R (.bool false) w31) (
 LoopP (fun I_1=>I_1 [.int .i64 0] w31) fun K_1 vs_1 w32=>∃n17:Int,vs_1=[.int .i64 n17]∧
 Br (decide (n17<(l40:Int))) (
 LoopP (fun I_2=>I_2 [.bool false,.int .i64 0] w32) fun K_2 vs_2 w33=>∃b18:Bool,∃n19:Int,vs_2=[.bool b18,.int .i64 n19]∧
 Br (decide (n19<(l45_0:Int))) (
 ∃D:World→Prop,D w33.drew∧
 Br b18 (
 K_2 [.bool true,.int .i64 (IntKind.i64.wrap (n19+1))] w33.drew) (
 ∃a88:Addr,p45_0=some a88∧(0:Int)≤n19∧n19<(l45_0:Int)∧
 ∃n90:Int,(∀w,D w→w.cell? (Addr.add (Addr.add a88 (n19.toNat*3)) 1)=some (.int .i64 n90))∧
 ∃a93:Addr,p40=some a93∧(0:Int)≤n17∧n17<(l40:Int)∧
 ∃n95:Int,(∀w,D w→w.cell? (Addr.add (Addr.add a93 (n17.toNat*3)) 1)=some (.int .i64 n95))∧
 Br (n90==n95) (
 ∃a100:Addr,p45_0=some a100∧(0:Int)≤n19∧n19<(l45_0:Int)∧
 ∃s102:ByteArray,(∀w,D w→w.cell? (Addr.add (Addr.add a100 (n19.toNat*3)) 2)=some (.string s102))∧
 ∃a105:Addr,p40=some a105∧(0:Int)≤n17∧n17<(l40:Int)∧
 ∃s107:ByteArray,(∀w,D w→w.cell? (Addr.add (Addr.add a105 (n17.toNat*3)) 2)=some (.string s107))∧
 Br (s102.toList==s107.toList) (
 ∃a113:Addr,p45_0=some a113∧(0:Int)≤n19∧n19<(l45_0:Int)∧
 ∃n115:Int,(∀w,D w→w.cell? (Addr.add a113 (n19.toNat*3))=some (.int .i64 n115))∧
 RDiii D k9 fun n116_0 n116_1 n116_2=>
 ∃a119:Addr,p40=some a119∧(0:Int)≤n17∧n17<(l40:Int)∧
 ∃n121:Int,(∀w,D w→w.cell? (Addr.add a119 (n17.toNat*3))=some (.int .i64 n121))∧
 Calls Tryz.prog 22 #[Agiii n116_0 n116_1 n116_2,.int .i64 0,.int .i64 n121] w33.drew fun e_8 w34=>∃n122:Int,e_8=.returned (.int .i64 n122)∧
 D w34∧
 K_2 [.bool (n115==n122),.int .i64 (IntKind.i64.wrap (n19+1))] w34) (
 K_2 [.bool false,.int .i64 (IntKind.i64.wrap (n19+1))] w33.drew)) (
 K_2 [.bool false,.int .i64 (IntKind.i64.wrap (n19+1))] w33.drew))) (
 Br (!b18) (
 R (.bool false) w33) (
 K_1 [.int .i64 (IntKind.i64.wrap (n17+1))] w33))) (
 R (.bool true) w32)))))))
theorem revetmentlaw17_StripeFew_calls {n0 n1 n2:Int}{p3:Option Addr}{l3 c3:Nat}{w:World}{R:Value→World→Prop}(h:revetmentlaw17_StripeFew n0 n1 n2 p3 l3 c3 w R):Calls Tryz.prog 4 #[.int .u8 n0,.int .u8 n1,.int .u8 n2,.slice p3 l3 c3] w (RT R):=fnE (pl:=(.s .o (.s .o (.s .o (.s .o (.s .o (.s .o (.s .o (.s .o (.s .o (.s (.s .o (.b (.l [(16,.one (.int .i64))] .o))) (.s .o (.s (.s .o (.b (.l [(17,.one (.int .i64))] (.s .o (.s (.b (.s .o (.s (.s .o (.b (.l [(18,.one .bool),(19,.one (.int .i64))] .o))) .o))) .o))))) .o))))))))))))) callable Tryz.func4 h (by kernel_rfl)
end Go.Proofs.YtkknkmplmilihaaGreat
