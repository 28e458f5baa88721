import Derived.Test.YtkknkmplmilihaaGreatD2
import Derived.Test.YtkknkmplmilihaaGreatD19
namespace Go.Proofs.YtkknkmplmilihaaGreat
open Go.Sh
set_option linter.unusedVariables false
set_option maxRecDepth 100000
variable {w:World}{R:Value→World→Prop}
def revetmentlaw17_StripeReads (n0 n1 n2 n3 n4:Int) (b5:Bool) (p6:Option Addr) (l6 c6:Nat) (p7:Option Addr) (l7 c7:Nat) (w:World) (R:Value→World→Prop):Prop:=
 C2 10 #[.slice p6 l6 c6] w fun b38 w1=>
 Br b38 (
 C2 11 #[] w1 fun b47 w2=>
 R (.bool b47) w2) (
 C2 10 #[.slice p7 l7 c7] w1 fun b41 w3=>
 Br b41 (
 C2 11 #[] w3 fun b47_1 w4=>
 R (.bool b47_1) w4) (
 C2 11 #[] w3 fun b44 w5=>
 Br (!b44) (
 C2 11 #[] w5 fun b47_2 w6=>
 R (.bool b47_2) w6) (
 C4 12 #[.int .u8 n0,.int .u8 n1,.int .u8 n2] w5 fun n51_0 n51_1 n51_2 w7=>
 Alloc #[.int .i64 0,.int .i64 0,.int .i64 0] 26 w7 fun k17 w8=>
 St3 k17 (.int .i64 n51_0) (.int .i64 n51_1) (.int .i64 n51_2) w8 fun w11=>
 Rdiii w11 k17 fun n53_0 n53_1 n53_2=>
 C5 13 #[Agiii n53_0 n53_1 n53_2,.bool b5] w11 fun n55_0_0 n55_0_1 n55_0_2 p55_0_3 l55_0_3 c55_0_3 p55_0_4 l55_0_4 c55_0_4 n55_0_5 n55_0_6 n55_0_7 p55_0_8 l55_0_8 c55_0_8 p55_0_9 l55_0_9 c55_0_9 p55_0_10 p55_0_11 p55_0_12 p55_0_13 b55_1 w12=>
 Alloc #[.int .i64 0,.int .i64 0,.int .i64 0,.slice none 0 0,.slice none 0 0,.int .i64 0,.int .i64 0,.int .i64 0,.slice none 0 0,.slice none 0 0,.pointer none,.pointer none,.pointer none,.pointer none] 40 w12 fun k18 w13=>
 St14 k18 (.int .i64 n55_0_0) (.int .i64 n55_0_1) (.int .i64 n55_0_2) (.slice p55_0_3 l55_0_3 c55_0_3) (.slice p55_0_4 l55_0_4 c55_0_4) (.int .i64 n55_0_5) (.int .i64 n55_0_6) (.int .i64 n55_0_7) (.slice p55_0_8 l55_0_8 c55_0_8) (.slice p55_0_9 l55_0_9 c55_0_9) (.pointer p55_0_10) (.pointer p55_0_11) (.pointer p55_0_12) (.pointer p55_0_13) w13 fun w27=>
 Br (!b55_1) (
 R (.bool false) w27) (
 ∃n63:Int,w27.cell? ⟨k17,2,none⟩=some (.int .i64 n63)∧
 n63≠0∧
 AllocM w27 fun k65 w28=>
 LoopP (fun I=>I [.int .i64 0] w28) fun K vs w29=>∃n22:Int,vs=[.int .i64 n22]∧
 Br (decide (n22<2)) (
 Join (fun vs_1 w30=>∃(p23:Option Addr) (l23 c23:Nat),vs_1=[.slice p23 l23 c23]∧
 AllocM w30 fun k93 w31=>
 Alloc #[] 47 w31 fun k94 w32=>
 LoopP (fun I_1=>I_1 [.slice (some ⟨k94,0,none⟩) 0 0,.int .i64 0] w32) fun K_1 vs_2 w33=>∃(p25:Option Addr) (l25 c25:Nat),∃n26:Int,vs_2=[.slice p25 l25 c25,.int .i64 n26]∧
 Br (decide (n26<(l23:Int))) (
 ∃D:World→Prop,D w33.drew∧
 ∃a103:Addr,p23=some a103∧(0:Int)≤n26∧n26<(l23:Int)∧
 ∃n105:Int,(∀w,D w→w.cell? (Addr.add a103 (n26.toNat*3))=some (.int .i64 n105))∧
 ∃n108:Int,(∀w,D w→w.cell? ⟨k17,0,none⟩=some (.int .i64 n108))∧
 ∃a113:Addr,p23=some a113∧(0:Int)≤n26∧n26<(l23:Int)∧
 ∃n115:Int,(∀w,D w→w.cell? (Addr.add (Addr.add a113 (n26.toNat*3)) 1)=some (.int .i64 n115))∧
 ∃n118:Int,(∀w,D w→w.cell? ⟨k17,1,none⟩=some (.int .i64 n118))∧
 ∃a122:Addr,p23=some a122∧(0:Int)≤n26∧n26<(l23:Int)∧
 ∃s124:ByteArray,(∀w,D w→w.cell? (Addr.add (Addr.add a122 (n26.toNat*3)) 2)=some (.string s124))∧
 (C3 14 #[.int .i64 n105] w33.drew fun n106 w34=>
 D w34∧
 (IntKind.i64.wrap (n108-2))≠0∧
 (C3 14 #[.int .i64 n115] w34 fun n116 w35=>
 D w35∧
 n118≠0∧
 (C0 15 #[.string s124] w35 fun s125 w36=>
 D w36∧
 Alloc #[.int .i64 0,.int .i64 0,.string (ByteArray.mk #[])] 47 w36 fun k27 w37=>
 D w37∧
 St3 k27 (.int .i64 (Int.tmod n106 (IntKind.i64.wrap (n108-2)))) (.int .i64 (Int.tmod n116 n118)) (.string s125) w37 fun w40=>
 Join (fun vs_3 w41=>∃(p25_1:Option Addr) (l25_1 c25_1:Nat),vs_3=[.slice p25_1 l25_1 c25_1]∧
 ∃n151:Int,w41.cell? ⟨k27,0,none⟩=some (.int .i64 n151)∧
 ∃n154:Int,w41.cell? ⟨k27,1,none⟩=some (.int .i64 n154)∧
 ∃w42,(Instr.mapUpdate 44 (.map (some k93)) (.int .i64 (IntKind.i64.wrap ((IntKind.i64.wrap (n151*8))+n154))) (.bool true)).run Tp w41=.ok () w42∧
 K_1 [.slice p25_1 l25_1 c25_1,.int .i64 (IntKind.i64.wrap (n26+1))] w42) fun J_1=>
 ∃n129:Int,w40.cell? ⟨k27,0,none⟩=some (.int .i64 n129)∧
 ∃n132:Int,w40.cell? ⟨k27,1,none⟩=some (.int .i64 n132)∧
 ∃b134:Bool,∃w43,(Instr.lookup 44 (.map (some k93)) (.int .i64 (IntKind.i64.wrap ((IntKind.i64.wrap (n129*8))+n132))) false).run Tp w40=.ok (.bool b134) w43∧
 Br (!b134) (
 Rdiit w43 k27 fun n137_0 n137_1 s137_2=>
 Alloc #[.int .i64 n137_0,.int .i64 n137_1,.string s137_2] 47 w43 fun k138 w44=>
 ∃(p139:Option Addr) (l139 c139:Nat),∃w45,(builtin .append #[22,22] 22 #[false,false] #[.slice p25 l25 c25,.slice (some ⟨k138,0,none⟩) 1 1]).run Tp w44=.ok (.value (.slice p139 l139 c139)) w45∧
 ∃n142:Int,w45.cell? ⟨k27,0,none⟩=some (.int .i64 n142)∧
 ∃n145:Int,w45.cell? ⟨k27,1,none⟩=some (.int .i64 n145)∧
 ∃s148:ByteArray,w45.cell? ⟨k27,2,none⟩=some (.string s148)∧
 ∃w46,(Instr.mapUpdate 43 (.map (some k65)) (.int .i64 (IntKind.i64.wrap ((IntKind.i64.wrap (n142*8))+n145))) (.string s148)).run Tp w45=.ok () w46∧
 J_1 [.slice p139 l139 c139] w46) (
 J_1 [.slice p25 l25 c25] w43))∧
 (Alloc #[.int .i64 0,.int .i64 0,.string (ByteArray.mk #[])] 47 w35 fun k27_1 w47=>
 D w47∧
 C0 15 #[.string s124] w47 fun s125_1 w48=>
 D w48∧
 St3 k27_1 (.int .i64 (Int.tmod n106 (IntKind.i64.wrap (n108-2)))) (.int .i64 (Int.tmod n116 n118)) (.string s125_1) w48 fun w51=>
 Join (fun vs_4 w52=>∃(p25_2:Option Addr) (l25_2 c25_2:Nat),vs_4=[.slice p25_2 l25_2 c25_2]∧
 ∃n151_1:Int,w52.cell? ⟨k27_1,0,none⟩=some (.int .i64 n151_1)∧
 ∃n154_1:Int,w52.cell? ⟨k27_1,1,none⟩=some (.int .i64 n154_1)∧
 ∃w53,(Instr.mapUpdate 44 (.map (some k93)) (.int .i64 (IntKind.i64.wrap ((IntKind.i64.wrap (n151_1*8))+n154_1))) (.bool true)).run Tp w52=.ok () w53∧
 K_1 [.slice p25_2 l25_2 c25_2,.int .i64 (IntKind.i64.wrap (n26+1))] w53) fun J_2=>
 ∃n129_1:Int,w51.cell? ⟨k27_1,0,none⟩=some (.int .i64 n129_1)∧
 ∃n132_1:Int,w51.cell? ⟨k27_1,1,none⟩=some (.int .i64 n132_1)∧
 ∃b134_1:Bool,∃w54,(Instr.lookup 44 (.map (some k93)) (.int .i64 (IntKind.i64.wrap ((IntKind.i64.wrap (n129_1*8))+n132_1))) false).run Tp w51=.ok (.bool b134_1) w54∧
 Br (!b134_1) (
 Rdiit w54 k27_1 fun n137_0_1 n137_1_1 s137_2_1=>
 Alloc #[.int .i64 n137_0_1,.int .i64 n137_1_1,.string s137_2_1] 47 w54 fun k138_1 w55=>
 ∃(p139_1:Option Addr) (l139_1 c139_1:Nat),∃w56,(builtin .append #[22,22] 22 #[false,false] #[.slice p25 l25 c25,.slice (some ⟨k138_1,0,none⟩) 1 1]).run Tp w55=.ok (.value (.slice p139_1 l139_1 c139_1)) w56∧
 ∃n142_1:Int,w56.cell? ⟨k27_1,0,none⟩=some (.int .i64 n142_1)∧
 ∃n145_1:Int,w56.cell? ⟨k27_1,1,none⟩=some (.int .i64 n145_1)∧
 ∃s148_1:ByteArray,w56.cell? ⟨k27_1,2,none⟩=some (.string s148_1)∧
 ∃w57,(Instr.mapUpdate 43 (.map (some k65)) (.int .i64 (IntKind.i64.wrap ((IntKind.i64.wrap (n142_1*8))+n145_1))) (.string s148_1)).run Tp w56=.ok () w57∧
 J_2 [.slice p139_1 l139_1 c139_1] w57) (
 J_2 [.slice p25 l25 c25] w54)))∧
 (Alloc #[.int .i64 0,.int .i64 0,.string (ByteArray.mk #[])] 47 w34 fun k27_2 w58=>
 D w58∧
 C3 14 #[.int .i64 n115] w58 fun n116_1 w59=>
 D w59∧
 n118≠0∧
 C0 15 #[.string s124] w59 fun s125_2 w60=>
 D w60∧
 St3 k27_2 (.int .i64 (Int.tmod n106 (IntKind.i64.wrap (n108-2)))) (.int .i64 (Int.tmod n116_1 n118)) (.string s125_2) w60 fun w63=>
 Join (fun vs_5 w64=>∃(p25_3:Option Addr) (l25_3 c25_3:Nat),vs_5=[.slice p25_3 l25_3 c25_3]∧
 ∃n151_2:Int,w64.cell? ⟨k27_2,0,none⟩=some (.int .i64 n151_2)∧
 ∃n154_2:Int,w64.cell? ⟨k27_2,1,none⟩=some (.int .i64 n154_2)∧
 ∃w65,(Instr.mapUpdate 44 (.map (some k93)) (.int .i64 (IntKind.i64.wrap ((IntKind.i64.wrap (n151_2*8))+n154_2))) (.bool true)).run Tp w64=.ok () w65∧
 K_1 [.slice p25_3 l25_3 c25_3,.int .i64 (IntKind.i64.wrap (n26+1))] w65) fun J_3=>
 ∃n129_2:Int,w63.cell? ⟨k27_2,0,none⟩=some (.int .i64 n129_2)∧
 ∃n132_2:Int,w63.cell? ⟨k27_2,1,none⟩=some (.int .i64 n132_2)∧
 ∃b134_2:Bool,∃w66,(Instr.lookup 44 (.map (some k93)) (.int .i64 (IntKind.i64.wrap ((IntKind.i64.wrap (n129_2*8))+n132_2))) false).run Tp w63=.ok (.bool b134_2) w66∧
 Br (!b134_2) (
 Rdiit w66 k27_2 fun n137_0_2 n137_1_2 s137_2_2=>
 Alloc #[.int .i64 n137_0_2,.int .i64 n137_1_2,.string s137_2_2] 47 w66 fun k138_2 w67=>
 ∃(p139_2:Option Addr) (l139_2 c139_2:Nat),∃w68,(builtin .append #[22,22] 22 #[false,false] #[.slice p25 l25 c25,.slice (some ⟨k138_2,0,none⟩) 1 1]).run Tp w67=.ok (.value (.slice p139_2 l139_2 c139_2)) w68∧
 ∃n142_2:Int,w68.cell? ⟨k27_2,0,none⟩=some (.int .i64 n142_2)∧
 ∃n145_2:Int,w68.cell? ⟨k27_2,1,none⟩=some (.int .i64 n145_2)∧
 ∃s148_2:ByteArray,w68.cell? ⟨k27_2,2,none⟩=some (.string s148_2)∧
 ∃w69,(Instr.mapUpdate 43 (.map (some k65)) (.int .i64 (IntKind.i64.wrap ((IntKind.i64.wrap (n142_2*8))+n145_2))) (.string s148_2)).run Tp w68=.ok () w69∧
 J_3 [.slice p139_2 l139_2 c139_2] w69) (
 J_3 [.slice p25 l25 c25] w66)))∧
 (Alloc #[.int .i64 0,.int .i64 0,.string (ByteArray.mk #[])] 47 w33.drew fun k27_3 w70=>
 D w70∧
 C3 14 #[.int .i64 n105] w70 fun n106_1 w71=>
 D w71∧
 (IntKind.i64.wrap (n108-2))≠0∧
 C3 14 #[.int .i64 n115] w71 fun n116_2 w72=>
 D w72∧
 n118≠0∧
 C0 15 #[.string s124] w72 fun s125_3 w73=>
 D w73∧
 St3 k27_3 (.int .i64 (Int.tmod n106_1 (IntKind.i64.wrap (n108-2)))) (.int .i64 (Int.tmod n116_2 n118)) (.string s125_3) w73 fun w76=>
 Join (fun vs_6 w77=>∃(p25_4:Option Addr) (l25_4 c25_4:Nat),vs_6=[.slice p25_4 l25_4 c25_4]∧
 ∃n151_3:Int,w77.cell? ⟨k27_3,0,none⟩=some (.int .i64 n151_3)∧
 ∃n154_3:Int,w77.cell? ⟨k27_3,1,none⟩=some (.int .i64 n154_3)∧
 ∃w78,(Instr.mapUpdate 44 (.map (some k93)) (.int .i64 (IntKind.i64.wrap ((IntKind.i64.wrap (n151_3*8))+n154_3))) (.bool true)).run Tp w77=.ok () w78∧
 K_1 [.slice p25_4 l25_4 c25_4,.int .i64 (IntKind.i64.wrap (n26+1))] w78) fun J_4=>
 ∃n129_3:Int,w76.cell? ⟨k27_3,0,none⟩=some (.int .i64 n129_3)∧
 ∃n132_3:Int,w76.cell? ⟨k27_3,1,none⟩=some (.int .i64 n132_3)∧
 ∃b134_3:Bool,∃w79,(Instr.lookup 44 (.map (some k93)) (.int .i64 (IntKind.i64.wrap ((IntKind.i64.wrap (n129_3*8))+n132_3))) false).run Tp w76=.ok (.bool b134_3) w79∧
 Br (!b134_3) (
 Rdiit w79 k27_3 fun n137_0_3 n137_1_3 s137_2_3=>
 Alloc #[.int .i64 n137_0_3,.int .i64 n137_1_3,.string s137_2_3] 47 w79 fun k138_3 w80=>
 ∃(p139_3:Option Addr) (l139_3 c139_3:Nat),∃w81,(builtin .append #[22,22] 22 #[false,false] #[.slice p25 l25 c25,.slice (some ⟨k138_3,0,none⟩) 1 1]).run Tp w80=.ok (.value (.slice p139_3 l139_3 c139_3)) w81∧
 ∃n142_3:Int,w81.cell? ⟨k27_3,0,none⟩=some (.int .i64 n142_3)∧
 ∃n145_3:Int,w81.cell? ⟨k27_3,1,none⟩=some (.int .i64 n145_3)∧
 ∃s148_3:ByteArray,w81.cell? ⟨k27_3,2,none⟩=some (.string s148_3)∧
 ∃w82,(Instr.mapUpdate 43 (.map (some k65)) (.int .i64 (IntKind.i64.wrap ((IntKind.i64.wrap (n142_3*8))+n145_3))) (.string s148_3)).run Tp w81=.ok () w82∧
 J_4 [.slice p139_3 l139_3 c139_3] w82) (
 J_4 [.slice p25 l25 c25] w79))) (
 Rdiiiss w33 k18 fun n157_0 n157_1 n157_2 p157_3 l157_3 c157_3 p157_4 l157_4 c157_4=>
 ∃p159:Option Addr,w33.cell? ⟨k18,12,none⟩=some (.pointer p159)∧
 C3 16 #[Agiiiss n157_0 n157_1 n157_2 p157_3 l157_3 c157_3 p157_4 l157_4 c157_4,.pointer p159,.int .i64 (Int.tmod (IntKind.i64.wrap n2) n63),.slice p25 l25 c25] w33 fun n162 w83=>
 Br (n162 != 0) (
 R (.bool false) w83) (
 LoopP (fun I_2=>I_2 [.int .i64 0] w83) fun K_2 vs_7 w84=>∃n28:Int,vs_7=[.int .i64 n28]∧
 ∃n166:Int,w84.cell? ⟨k17,0,none⟩=some (.int .i64 n166)∧
 Br (decide (n28<(IntKind.i64.wrap (n166-2)))) (
 LoopP (fun I_3=>I_3 [.int .i64 0] w84) fun K_3 vs_8 w85=>∃n29:Int,vs_8=[.int .i64 n29]∧
 ∃n173:Int,w85.cell? ⟨k17,1,none⟩=some (.int .i64 n173)∧
 Br (decide (n29<n173)) (
 ∃s183_0:ByteArray,∃b183_1:Bool,∃w86,(Instr.lookup 43 (.map (some k65)) (.int .i64 (IntKind.i64.wrap ((IntKind.i64.wrap (n28*8))+n29))) true).run Tp w85=.ok (.tuple #[.string s183_0,.bool b183_1]) w86∧
 Join (fun vs_9 w87=>∃s30:ByteArray,vs_9=[.string s30]∧
 Rdiiiss w87 k18 fun n191_0 n191_1 n191_2 p191_3 l191_3 c191_3 p191_4 l191_4 c191_4=>
 C6 17 #[Agiiiss n191_0 n191_1 n191_2 p191_3 l191_3 c191_3 p191_4 l191_4 c191_4,.int .i64 (Int.tmod (IntKind.i64.wrap n2) n63),.int .i64 n29,.int .i64 n28] w87 fun s195_0 n195_1 w88=>
 Br (n195_1 != 0) (
 R (.bool false) w88) (
 Br (!(s195_0.toList==s30.toList)) (
 R (.bool false) w88) (
 Rdiiiss w88 k18 fun n207_0 n207_1 n207_2 p207_3 l207_3 c207_3 p207_4 l207_4 c207_4=>
 C12 18 #[Agiiiss n207_0 n207_1 n207_2 p207_3 l207_3 c207_3 p207_4 l207_4 c207_4,.int .i64 (Int.tmod (IntKind.i64.wrap n2) n63),.int .i64 n29] w88 fun p210_0 l210_0 c210_0 p210_1 l210_1 c210_1 n210_2 w89=>
 Br (n210_2 != 0) (
 R (.bool false) w89) (
 C2 19 #[.slice p210_0 l210_0 c210_0] w89 fun b218 w90=>
 Br (!b218) (
 R (.bool false) w90) (
 K_3 [.int .i64 (IntKind.i64.wrap (n29+1))] w90))))) fun J_5=>
 Br (!b183_1) (
 C0 15 #[.string (ByteArray.mk #[])] w86 fun s188 w91=>
 J_5 [.string s188] w91) (
 J_5 [.string s183_0] w86)) (
 K_2 [.int .i64 (IntKind.i64.wrap (n28+1))] w85)) (
 K [.int .i64 (IntKind.i64.wrap (n22+1))] w84)))) fun J=>
 Br (n22==1) (
 ∃D_1:World→Prop,D_1 w29.drew∧
 ∃(p76:Option Addr) (l76 c76:Nat),(∀w,D_1 w→w.cell? ⟨k18,3,none⟩=some (.slice p76 l76 c76))∧
 ∃n80:Int,(∀w,D_1 w→w.cell? ⟨k17,0,none⟩=some (.int .i64 n80))∧
 n80≠0∧
 ∃a82:Addr,p76=some a82∧(0:Int)≤Int.tmod (IntKind.i64.wrap n3) n80∧(Int.tmod (IntKind.i64.wrap n3) n80)<(l76:Int)∧
 St (Addr.add a82 ((Int.tmod (IntKind.i64.wrap n3) n80).toNat*1)) (.pointer none) w29.drew fun w92=>
 ∃D_2:World→Prop,D_2 w92.drew∧
 ∃(p85:Option Addr) (l85 c85:Nat),(∀w,D_2 w→w.cell? ⟨k18,4,none⟩=some (.slice p85 l85 c85))∧
 ∃n89:Int,(∀w,D_2 w→w.cell? ⟨k17,0,none⟩=some (.int .i64 n89))∧
 n89≠0∧
 ∃a92:Addr,p85=some a92∧(0:Int)≤Int.tmod (IntKind.i64.wrap n4) n89∧(Int.tmod (IntKind.i64.wrap n4) n89)<(l85:Int)∧
 St (Addr.add a92 ((Int.tmod (IntKind.i64.wrap n4) n89).toNat*1)) (.int .i64 (Int.tmod (IntKind.i64.wrap n2) n63)) w92.drew fun w93=>
 J [.slice p7 l7 c7] w93) (
 J [.slice p6 l6 c6] w29)) (
 R (.bool true) w29)))))
theorem revetmentlaw17_StripeReads_calls {n0 n1 n2 n3 n4:Int}{b5:Bool}{p6:Option Addr}{l6 c6:Nat}{p7:Option Addr}{l7 c7:Nat}(h:revetmentlaw17_StripeReads n0 n1 n2 n3 n4 b5 p6 l6 c6 p7 l7 c7 w R):Calls Tp 3 #[.int .u8 n0,.int .u8 n1,.int .u8 n2,.int .u8 n3,.int .u8 n4,.bool b5,.slice p6 l6 c6,.slice p7 l7 c7] w (RT R):=fnE (pl:=(.s .o (.s .o (.s .o (.s .o (.s .o (.s .o (.s .o (.s (.s .o (.b (.l [(22,.one (.int .i64))] (.s .o (.s (.b (.s .o (.j [(23,.one .slice)] .o (.s .o (.s .o (.s (.s .o (.b (.l [(25,.one .slice),(26,.one (.int .i64))] (.s .o (.s (.b (.s .o (.j [(25,.one .slice)] .o .o))) .o))))) (.s .o (.s .o (.b (.l [(28,.one (.int .i64))] (.s .o (.s (.b (.s .o (.b (.l [(29,.one (.int .i64))] (.s .o (.s (.b (.s .o (.j [(30,.one .str)] .o .o))) .o)))))) .o)))))))))))) .o))))) .o))))))))) callable Tryz.func3 h (by kernel_rfl)
end Go.Proofs.YtkknkmplmilihaaGreat
