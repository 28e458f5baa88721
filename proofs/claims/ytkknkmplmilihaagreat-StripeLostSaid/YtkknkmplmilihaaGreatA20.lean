import Derived.Test.YtkknkmplmilihaaGreatA2
import Derived.Test.YtkknkmplmilihaaGreatA19
namespace Go.Proofs.YtkknkmplmilihaaGreat
open Go.Sh
set_option linter.unusedVariables false
set_option maxRecDepth 100000
def revetmentlaw17_StripeLost (n0 n1:Int) (p2:Option Addr) (l2 c2:Nat) (n3 n4 n5:Int) (w:World) (R:Value→World→Prop):Prop:=
 Calls Tryz.prog 10 #[.slice p2 l2 c2] w fun e w1=>∃b21:Bool,e=.returned (.bool b21)∧
 (b21=true→
 Calls Tryz.prog 11 #[] w1 fun e_1 w2=>∃b26:Bool,e_1=.returned (.bool b26)∧
 R (.bool b26) w2)∧
 (b21=false→
 Calls Tryz.prog 11 #[] w1 fun e_2 w3=>∃b23:Bool,e_2=.returned (.bool b23)∧
 ((!b23)=true→
 Calls Tryz.prog 11 #[] w3 fun e_3 w4=>∃b26_1:Bool,e_3=.returned (.bool b26_1)∧
 R (.bool b26_1) w4)∧
 ((!b23)=false→
 Calls Tryz.prog 12 #[.int .u8 n0,.int .u8 n1,.int .u8 1] w3 fun e_4 w5=>∃n29_0 n29_1 n29_2:Int,e_4=.returned ((Agiii n29_0 n29_1 n29_2))∧
 Alloc #[.int .i64 0,.int .i64 0,.int .i64 0] 26 w5 fun k13 w6=>
 St3 k13 (.int .i64 n29_0) (.int .i64 n29_1) (.int .i64 n29_2) w6 fun w9=>
 Rdiii w9 k13 fun n31_0 n31_1 n31_2=>
 Calls Tryz.prog 13 #[Agiii n31_0 n31_1 n31_2,.bool true] w9 fun e_5 w10=>∃n32_0_0 n32_0_1 n32_0_2:Int,∃(p32_0_3:Option Addr) (l32_0_3 c32_0_3:Nat),∃(p32_0_4:Option Addr) (l32_0_4 c32_0_4:Nat),∃n32_0_5 n32_0_6 n32_0_7:Int,∃(p32_0_8:Option Addr) (l32_0_8 c32_0_8:Nat),∃(p32_0_9:Option Addr) (l32_0_9 c32_0_9:Nat),∃p32_0_10:Option Addr,∃p32_0_11:Option Addr,∃p32_0_12:Option Addr,∃p32_0_13:Option Addr,∃b32_1:Bool,e_5=.returned (.tuple #[Agiiissiiisspppp n32_0_0 n32_0_1 n32_0_2 p32_0_3 l32_0_3 c32_0_3 p32_0_4 l32_0_4 c32_0_4 n32_0_5 n32_0_6 n32_0_7 p32_0_8 l32_0_8 c32_0_8 p32_0_9 l32_0_9 c32_0_9 p32_0_10 p32_0_11 p32_0_12 p32_0_13,.bool b32_1])∧
 Alloc #[.int .i64 0,.int .i64 0,.int .i64 0,.slice none 0 0,.slice none 0 0,.int .i64 0,.int .i64 0,.int .i64 0,.slice none 0 0,.slice none 0 0,.pointer none,.pointer none,.pointer none,.pointer none] 40 w10 fun k14 w11=>
 St14 k14 (.int .i64 n32_0_0) (.int .i64 n32_0_1) (.int .i64 n32_0_2) (.slice p32_0_3 l32_0_3 c32_0_3) (.slice p32_0_4 l32_0_4 c32_0_4) (.int .i64 n32_0_5) (.int .i64 n32_0_6) (.int .i64 n32_0_7) (.slice p32_0_8 l32_0_8 c32_0_8) (.slice p32_0_9 l32_0_9 c32_0_9) (.pointer p32_0_10) (.pointer p32_0_11) (.pointer p32_0_12) (.pointer p32_0_13) w11 fun w25=>
 ((!b32_1)=true→
 R (.bool false) w25)∧
 ((!b32_1)=false→
 ∃D:World→Prop,D w25.drew∧
 ∃(p39:Option Addr) (l39 c39:Nat),(∀w,D w→w.cell? ⟨k14,3,none⟩=some (.slice p39 l39 c39))∧
 ∃n43:Int,(∀w,D w→w.cell? ⟨k13,0,none⟩=some (.int .i64 n43))∧
 n43≠0∧
 ∃a45:Addr,p39=some a45∧(0:Int)≤Int.tmod (IntKind.i64.wrap n3) n43∧(Int.tmod (IntKind.i64.wrap n3) n43)<(l39:Int)∧
 St (Addr.add a45 ((Int.tmod (IntKind.i64.wrap n3) n43).toNat*1)) (.pointer none) w25.drew fun w26=>
 ∃D_1:World→Prop,D_1 w26.drew∧
 ∃(p48:Option Addr) (l48 c48:Nat),(∀w,D_1 w→w.cell? ⟨k14,3,none⟩=some (.slice p48 l48 c48))∧
 ∃n52:Int,(∀w,D_1 w→w.cell? ⟨k13,0,none⟩=some (.int .i64 n52))∧
 n52≠0∧
 ∃a54:Addr,p48=some a54∧(0:Int)≤Int.tmod (IntKind.i64.wrap n4) n52∧(Int.tmod (IntKind.i64.wrap n4) n52)<(l48:Int)∧
 St (Addr.add a54 ((Int.tmod (IntKind.i64.wrap n4) n52).toNat*1)) (.pointer none) w26.drew fun w27=>
 ∃D_2:World→Prop,D_2 w27.drew∧
 ∃(p57:Option Addr) (l57 c57:Nat),(∀w,D_2 w→w.cell? ⟨k14,3,none⟩=some (.slice p57 l57 c57))∧
 ∃n61:Int,(∀w,D_2 w→w.cell? ⟨k13,0,none⟩=some (.int .i64 n61))∧
 n61≠0∧
 ∃a63:Addr,p57=some a63∧(0:Int)≤Int.tmod (IntKind.i64.wrap n5) n61∧(Int.tmod (IntKind.i64.wrap n5) n61)<(l57:Int)∧
 St (Addr.add a63 ((Int.tmod (IntKind.i64.wrap n5) n61).toNat*1)) (.pointer none) w27.drew fun w28=>
 LoopP (fun I=>I [.int .i64 0,.int .i64 0] w28) fun K vs w29=>∃n16 n17:Int,vs=[.int .i64 n16,.int .i64 n17]∧
 ∃n66:Int,w29.cell? ⟨k13,0,none⟩=some (.int .i64 n66)∧
 ((decide (n17<n66))=true→
 ∃(p72:Option Addr) (l72 c72:Nat),w29.cell? ⟨k14,3,none⟩=some (.slice p72 l72 c72)∧
 ∃a74:Addr,p72=some a74∧(0:Int)≤n17∧n17<(l72:Int)∧
 ∃p75:Option Addr,w29.cell? (Addr.add a74 (n17.toNat*1))=some (.pointer p75)∧
 ((Option.isNone p75)=true→
 K [.int .i64 (IntKind.i64.wrap (n16+1)),.int .i64 (IntKind.i64.wrap (n17+1))] w29)∧
 ((Option.isNone p75)=false→
 K [.int .i64 n16,.int .i64 (IntKind.i64.wrap (n17+1))] w29))∧
 ((decide (n17<n66))=false→
 Rdiii w29 k13 fun n79_0 n79_1 n79_2=>
 Calls Tryz.prog 20 #[Agiii n79_0 n79_1 n79_2,.slice p2 l2 c2] w29 fun e_6 w30=>∃(p81:Option Addr) (l81 c81:Nat),e_6=.returned (.slice p81 l81 c81)∧
 Rdiiiss w30 k14 fun n83_0 n83_1 n83_2 p83_3 l83_3 c83_3 p83_4 l83_4 c83_4=>
 ∃p85:Option Addr,w30.cell? ⟨k14,12,none⟩=some (.pointer p85)∧
 Calls Tryz.prog 16 #[Agiiiss n83_0 n83_1 n83_2 p83_3 l83_3 c83_3 p83_4 l83_4 c83_4,.pointer p85,.int .i64 0,.slice p81 l81 c81] w30 fun e_7 w31=>∃n87:Int,e_7=.returned (.int .i64 n87)∧
 (((l81:Int)==0)=true→
 R (.bool (n87==0)) w31)∧
 (((l81:Int)==0)=false→
 ((decide (n16<3))=true→
 R (.bool (n87==0)) w31)∧
 ((decide (n16<3))=false→
 ((n87==60)=true→
 ∃p101:Option Addr,w31.cell? ⟨k14,12,none⟩=some (.pointer p101)∧
 Calls Tryz.prog 23 #[.pointer p101] w31 fun e_8 w32=>∃n102:Int,e_8=.returned (.int .i64 n102)∧
 R (.bool (n102==3)) w32)∧
 ((n87==60)=false→
 R (.bool false) w31)))))))
theorem revetmentlaw17_StripeLost_calls {n0 n1:Int}{p2:Option Addr}{l2 c2:Nat}{n3 n4 n5:Int}{w:World}{R:Value→World→Prop}(h:revetmentlaw17_StripeLost n0 n1 p2 l2 c2 n3 n4 n5 w R):Calls Tryz.prog 5 #[.int .u8 n0,.int .u8 n1,.slice p2 l2 c2,.int .u8 n3,.int .u8 n4,.int .u8 n5] w fun e w1=>∃v,e=.returned v∧R v w1:=fnE (pl:=(.s .o (.s .o (.s .o (.s .o (.s .o (.s .o (.s .o (.s .o (.s .o (.s (.s .o (.b (.l [(16,.one (.int .i64)),(17,.one (.int .i64))] .o))) .o))))))))))) callable Tryz.func5 h (by kernel_rfl)
end Go.Proofs.YtkknkmplmilihaaGreat
