import Derived.Test.YtkknkmplmilihaaGreatC2
import Derived.Test.YtkknkmplmilihaaGreatC19
namespace Go.Proofs.YtkknkmplmilihaaGreat
open Go.Sh
set_option linter.unusedVariables false
set_option maxRecDepth 100000
def revetmentlaw17_StripeBusy (n0 n1:Int) (p2:Option Addr) (l2 c2:Nat) (p3:Option Addr) (l3 c3:Nat) (w:World) (R:Value→World→Prop):Prop:=
 Calls Tryz.prog 10 #[.slice p2 l2 c2] w fun e w1=>∃b26:Bool,e=.returned (.bool b26)∧
 Br b26 (
 Calls Tryz.prog 11 #[] w1 fun e_1 w2=>∃b35:Bool,e_1=.returned (.bool b35)∧
 R (.bool b35) w2) (
 Calls Tryz.prog 10 #[.slice p3 l3 c3] w1 fun e_2 w3=>∃b29:Bool,e_2=.returned (.bool b29)∧
 Br b29 (
 Calls Tryz.prog 11 #[] w3 fun e_3 w4=>∃b35_1:Bool,e_3=.returned (.bool b35_1)∧
 R (.bool b35_1) w4) (
 Calls Tryz.prog 11 #[] w3 fun e_4 w5=>∃b32:Bool,e_4=.returned (.bool b32)∧
 Br (!b32) (
 Calls Tryz.prog 11 #[] w5 fun e_5 w6=>∃b35_2:Bool,e_5=.returned (.bool b35_2)∧
 R (.bool b35_2) w6) (
 Calls Tryz.prog 12 #[.int .u8 n0,.int .u8 n1,.int .u8 2] w5 fun e_6 w7=>∃n38_0 n38_1 n38_2:Int,e_6=.returned ((Agiii n38_0 n38_1 n38_2))∧
 Alloc #[.int .i64 0,.int .i64 0,.int .i64 0] 26 w7 fun k9 w8=>
 St3 k9 (.int .i64 n38_0) (.int .i64 n38_1) (.int .i64 n38_2) w8 fun w11=>
 Rdiii w11 k9 fun n40_0 n40_1 n40_2=>
 Calls Tryz.prog 13 #[Agiii n40_0 n40_1 n40_2,.bool true] w11 fun e_7 w12=>∃n41_0_0 n41_0_1 n41_0_2:Int,∃(p41_0_3:Option Addr) (l41_0_3 c41_0_3:Nat),∃(p41_0_4:Option Addr) (l41_0_4 c41_0_4:Nat),∃n41_0_5 n41_0_6 n41_0_7:Int,∃(p41_0_8:Option Addr) (l41_0_8 c41_0_8:Nat),∃(p41_0_9:Option Addr) (l41_0_9 c41_0_9:Nat),∃p41_0_10:Option Addr,∃p41_0_11:Option Addr,∃p41_0_12:Option Addr,∃p41_0_13:Option Addr,∃b41_1:Bool,e_7=.returned (.tuple #[Agiiissiiisspppp n41_0_0 n41_0_1 n41_0_2 p41_0_3 l41_0_3 c41_0_3 p41_0_4 l41_0_4 c41_0_4 n41_0_5 n41_0_6 n41_0_7 p41_0_8 l41_0_8 c41_0_8 p41_0_9 l41_0_9 c41_0_9 p41_0_10 p41_0_11 p41_0_12 p41_0_13,.bool b41_1])∧
 Alloc #[.int .i64 0,.int .i64 0,.int .i64 0,.slice none 0 0,.slice none 0 0,.int .i64 0,.int .i64 0,.int .i64 0,.slice none 0 0,.slice none 0 0,.pointer none,.pointer none,.pointer none,.pointer none] 40 w12 fun k10 w13=>
 St14 k10 (.int .i64 n41_0_0) (.int .i64 n41_0_1) (.int .i64 n41_0_2) (.slice p41_0_3 l41_0_3 c41_0_3) (.slice p41_0_4 l41_0_4 c41_0_4) (.int .i64 n41_0_5) (.int .i64 n41_0_6) (.int .i64 n41_0_7) (.slice p41_0_8 l41_0_8 c41_0_8) (.slice p41_0_9 l41_0_9 c41_0_9) (.pointer p41_0_10) (.pointer p41_0_11) (.pointer p41_0_12) (.pointer p41_0_13) w13 fun w27=>
 Br (!b41_1) (
 R (.bool false) w27) (
 Rdiii w27 k9 fun n46_0 n46_1 n46_2=>
 Calls Tryz.prog 20 #[Agiii n46_0 n46_1 n46_2,.slice p2 l2 c2] w27 fun e_8 w28=>∃(p48:Option Addr) (l48 c48:Nat),e_8=.returned (.slice p48 l48 c48)∧
 Rdiii w28 k9 fun n49_0 n49_1 n49_2=>
 Calls Tryz.prog 20 #[Agiii n49_0 n49_1 n49_2,.slice p3 l3 c3] w28 fun e_9 w29=>∃(p51:Option Addr) (l51 c51:Nat),e_9=.returned (.slice p51 l51 c51)∧
 Br ((l48:Int)==0) (
 Rdiiiss w29 k10 fun n61_0 n61_1 n61_2 p61_3 l61_3 c61_3 p61_4 l61_4 c61_4=>
 ∃p63:Option Addr,w29.cell? ⟨k10,12,none⟩=some (.pointer p63)∧
 Calls Tryz.prog 16 #[Agiiiss n61_0 n61_1 n61_2 p61_3 l61_3 c61_3 p61_4 l61_4 c61_4,.pointer p63,.int .i64 0,.slice none 0 0] w29 fun e_10 w30=>∃n64:Int,e_10=.returned (.int .i64 n64)∧
 Br (n64==0) (
 ∃p68:Option Addr,w30.cell? ⟨k10,12,none⟩=some (.pointer p68)∧
 Calls Tryz.prog 23 #[.pointer p68] w30 fun e_11 w31=>∃n69:Int,e_11=.returned (.int .i64 n69)∧
 R (.bool (n69==3)) w31) (
 R (.bool false) w30)) (
 Br ((l51:Int)==0) (
 Rdiiiss w29 k10 fun n61_0_1 n61_1_1 n61_2_1 p61_3_1 l61_3_1 c61_3_1 p61_4_1 l61_4_1 c61_4_1=>
 ∃p63_1:Option Addr,w29.cell? ⟨k10,12,none⟩=some (.pointer p63_1)∧
 Calls Tryz.prog 16 #[Agiiiss n61_0_1 n61_1_1 n61_2_1 p61_3_1 l61_3_1 c61_3_1 p61_4_1 l61_4_1 c61_4_1,.pointer p63_1,.int .i64 0,.slice none 0 0] w29 fun e_12 w32=>∃n64_1:Int,e_12=.returned (.int .i64 n64_1)∧
 Br (n64_1==0) (
 ∃p68_1:Option Addr,w32.cell? ⟨k10,12,none⟩=some (.pointer p68_1)∧
 Calls Tryz.prog 23 #[.pointer p68_1] w32 fun e_13 w33=>∃n69_1:Int,e_13=.returned (.int .i64 n69_1)∧
 R (.bool (n69_1==3)) w33) (
 R (.bool false) w32)) (
 LoopP (fun I=>I [.int .i64 0] w29) fun K vs w34=>∃n14:Int,vs=[.int .i64 n14]∧
 Br (decide (n14<3)) (
 Rdiiiss w34 k10 fun n77_0 n77_1 n77_2 p77_3 l77_3 c77_3 p77_4 l77_4 c77_4=>
 ∃p79:Option Addr,w34.cell? ⟨k10,12,none⟩=some (.pointer p79)∧
 Calls Tryz.prog 16 #[Agiiiss n77_0 n77_1 n77_2 p77_3 l77_3 c77_3 p77_4 l77_4 c77_4,.pointer p79,.int .i64 0,.slice p48 l48 c48] w34 fun e_14 w35=>∃n81:Int,e_14=.returned (.int .i64 n81)∧
 Br (n81 != 0) (
 R (.bool false) w35) (
 K [.int .i64 (IntKind.i64.wrap (n14+1))] w35)) (
 ∃D:World→Prop,D w34.drew∧
 RDiiiss D k10 fun n85_0 n85_1 n85_2 p85_3 l85_3 c85_3 p85_4 l85_4 c85_4=>
 ∃a87:Addr,p51=some a87∧(0:Int)≤0∧0<(l51:Int)∧
 ∃n89:Int,(∀w,D w→w.cell? (a87.add 1)=some (.int .i64 n89))∧
 Calls Tryz.prog 24 #[Agiiiss n85_0 n85_1 n85_2 p85_3 l85_3 c85_3 p85_4 l85_4 c85_4,.int .i64 0,.int .i64 n89] w34.drew fun e_15 w36=>∃(p90_0:Option Addr) (l90_0 c90_0:Nat),∃(p90_1:Option Addr) (l90_1 c90_1:Nat),∃n90_2:Int,e_15=.returned (.tuple #[.slice p90_0 l90_0 c90_0,.slice p90_1 l90_1 c90_1,.int .i64 n90_2])∧
 D w36∧
 Rdiiiss w36 k10 fun n95_0 n95_1 n95_2 p95_3 l95_3 c95_3 p95_4 l95_4 c95_4=>
 ∃p97:Option Addr,w36.cell? ⟨k10,12,none⟩=some (.pointer p97)∧
 Calls Tryz.prog 16 #[Agiiiss n95_0 n95_1 n95_2 p95_3 l95_3 c95_3 p95_4 l95_4 c95_4,.pointer p97,.int .i64 0,.slice p51 l51 c51] w36 fun e_16 w37=>∃n99:Int,e_16=.returned (.int .i64 n99)∧
 ∃D_1:World→Prop,D_1 w37.drew∧
 RDiiiss D_1 k10 fun n102_0 n102_1 n102_2 p102_3 l102_3 c102_3 p102_4 l102_4 c102_4=>
 ∃a104:Addr,p51=some a104∧(0:Int)≤0∧0<(l51:Int)∧
 ∃n106:Int,(∀w,D_1 w→w.cell? (a104.add 1)=some (.int .i64 n106))∧
 Calls Tryz.prog 24 #[Agiiiss n102_0 n102_1 n102_2 p102_3 l102_3 c102_3 p102_4 l102_4 c102_4,.int .i64 0,.int .i64 n106] w37.drew fun e_17 w38=>∃(p107_0:Option Addr) (l107_0 c107_0:Nat),∃(p107_1:Option Addr) (l107_1 c107_1:Nat),∃n107_2:Int,e_17=.returned (.tuple #[.slice p107_0 l107_0 c107_0,.slice p107_1 l107_1 c107_1,.int .i64 n107_2])∧
 D_1 w38∧
 Br (n90_2 != 0) (
 R (.bool false) w38) (
 Br (n107_2 != 0) (
 R (.bool false) w38) (
 Br (n99 != 130) (
 R (.bool false) w38) (
 ∃n125:Int,w38.cell? ⟨k9,0,none⟩=some (.int .i64 n125)∧
 Br ((l90_0:Int) != n125) (
 R (.bool false) w38) (
 ∃n132:Int,w38.cell? ⟨k9,0,none⟩=some (.int .i64 n132)∧
 Br ((l107_0:Int) != n132) (
 R (.bool false) w38) (
 LoopP (fun I_1=>I_1 [.int .i64 0] w38) fun K_1 vs_1 w39=>∃n22:Int,vs_1=[.int .i64 n22]∧
 ∃n137:Int,w39.cell? ⟨k9,0,none⟩=some (.int .i64 n137)∧
 Br (decide (n22<n137)) (
 ∃D_2:World→Prop,D_2 w39.drew∧
 ∃a143:Addr,p90_0=some a143∧(0:Int)≤n22∧n22<(l90_0:Int)∧
 ∃s144:ByteArray,(∀w,D_2 w→w.cell? (Addr.add a143 (n22.toNat*1))=some (.string s144))∧
 ∃a147:Addr,p107_0=some a147∧(0:Int)≤n22∧n22<(l107_0:Int)∧
 ∃s148:ByteArray,(∀w,D_2 w→w.cell? (Addr.add a147 (n22.toNat*1))=some (.string s148))∧
 Br (!(s144.toList==s148.toList)) (
 R (.bool false) w39.drew) (
 K_1 [.int .i64 (IntKind.i64.wrap (n22+1))] w39.drew)) (
 ∃p151:Option Addr,w39.cell? ⟨k10,12,none⟩=some (.pointer p151)∧
 Calls Tryz.prog 25 #[.pointer p151,.int .u64 3] w39 fun e_18 w40=>∃n152:Int,e_18=.returned (.int .i64 n152)∧
 Br (n152 != 0) (
 R (.bool false) w40) (
 Rdiiiss w40 k10 fun n156_0 n156_1 n156_2 p156_3 l156_3 c156_3 p156_4 l156_4 c156_4=>
 ∃p158:Option Addr,w40.cell? ⟨k10,12,none⟩=some (.pointer p158)∧
 Calls Tryz.prog 16 #[Agiiiss n156_0 n156_1 n156_2 p156_3 l156_3 c156_3 p156_4 l156_4 c156_4,.pointer p158,.int .i64 0,.slice p51 l51 c51] w40 fun e_19 w41=>∃n160:Int,e_19=.returned (.int .i64 n160)∧
 Br (n160 != 0) (
 R (.bool false) w41) (
 ∃D_3:World→Prop,D_3 w41.drew∧
 RDiiiss D_3 k10 fun n165_0 n165_1 n165_2 p165_3 l165_3 c165_3 p165_4 l165_4 c165_4=>
 ∃a167:Addr,p51=some a167∧(0:Int)≤0∧0<(l51:Int)∧
 ∃n169:Int,(∀w,D_3 w→w.cell? (a167.add 1)=some (.int .i64 n169))∧
 ∃a171:Addr,p51=some a171∧(0:Int)≤0∧0<(l51:Int)∧
 ∃n173:Int,(∀w,D_3 w→w.cell? a171=some (.int .i64 n173))∧
 Calls Tryz.prog 17 #[Agiiiss n165_0 n165_1 n165_2 p165_3 l165_3 c165_3 p165_4 l165_4 c165_4,.int .i64 0,.int .i64 n169,.int .i64 n173] w41.drew fun e_20 w42=>∃s174_0:ByteArray,∃n174_1:Int,e_20=.returned (.tuple #[.string s174_0,.int .i64 n174_1])∧
 D_3 w42∧
 Br (n174_1==0) (
 ∃a182:Addr,p51=some a182∧(0:Int)≤0∧0<(l51:Int)∧
 ∃s184:ByteArray,w42.cell? (a182.add 2)=some (.string s184)∧
 R (.bool (s174_0.toList==s184.toList)) w42) (
 R (.bool false) w42))))))))))))))))
theorem revetmentlaw17_StripeBusy_calls {n0 n1:Int}{p2:Option Addr}{l2 c2:Nat}{p3:Option Addr}{l3 c3:Nat}{w:World}{R:Value→World→Prop}(h:revetmentlaw17_StripeBusy n0 n1 p2 l2 c2 p3 l3 c3 w R):Calls Tryz.prog 6 #[.int .u8 n0,.int .u8 n1,.slice p2 l2 c2,.slice p3 l3 c3] w (RT R):=fnE (pl:=(.s .o (.s .o (.s .o (.s .o (.s .o (.s .o (.s .o (.s .o (.s (.s .o (.b (.l [(14,.one (.int .i64))] .o))) (.s .o (.s .o (.s .o (.s .o (.s (.s .o (.b (.l [(22,.one (.int .i64))] .o))) .o))))))))))))))) callable Tryz.func6 h (by kernel_rfl)
end Go.Proofs.YtkknkmplmilihaaGreat
