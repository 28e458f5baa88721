import Derived.Test.YtkknkmplmilihaaGreatD2
namespace Go.Proofs.YtkknkmplmilihaaGreat
open Go.Sh
set_option linter.unusedVariables false
set_option maxRecDepth 100000
variable {w:World}{R:Value→World→Prop}
abbrev C0 (f:Nat) (a:Array Value) (w:World) (K:ByteArray→World→Prop):Prop:=Calls Tp f a w fun e w1=>∃x0:ByteArray,e=.returned (.string x0)∧K x0 w1
abbrev C1 (f:Nat) (a:Array Value) (w:World) (K:Option Addr→Nat→Nat→World→Prop):Prop:=Calls Tp f a w fun e w1=>∃(x0:Option Addr) (x0a x0b:Nat),e=.returned (.slice x0 x0a x0b)∧K x0 x0a x0b w1
abbrev C10 (f:Nat) (a:Array Value) (w:World) (K:Int→Int→World→Prop):Prop:=Calls Tp f a w fun e w1=>∃x0:Int,∃x1:Int,e=.returned (.tuple #[.int .u64 x0,.int .i64 x1])∧K x0 x1 w1
abbrev C11 (f:Nat) (a:Array Value) (w:World) (K:Int→Int→Int→Option Addr→Nat→Nat→Option Addr→Nat→Nat→Int→Int→Int→World→Prop):Prop:=Calls Tp f a w fun e w1=>∃x0:Int,∃x1:Int,∃x2:Int,∃(x3:Option Addr) (x3a x3b:Nat),∃(x4:Option Addr) (x4a x4b:Nat),∃x5:Int,∃x6:Int,∃x7:Int,e=.returned (.tuple #[Agiiissii x0 x1 x2 x3 x3a x3b x4 x4a x4b x5 x6,.int .i64 x7])∧K x0 x1 x2 x3 x3a x3b x4 x4a x4b x5 x6 x7 w1
abbrev C12 (f:Nat) (a:Array Value) (w:World) (K:Option Addr→Nat→Nat→Option Addr→Nat→Nat→Int→World→Prop):Prop:=Calls Tp f a w fun e w1=>∃(x0:Option Addr) (x0a x0b:Nat),∃(x1:Option Addr) (x1a x1b:Nat),∃x2:Int,e=.returned (.tuple #[.slice x0 x0a x0b,.slice x1 x1a x1b,.int .i64 x2])∧K x0 x0a x0b x1 x1a x1b x2 w1
abbrev C13 (f:Nat) (a:Array Value) (w:World) (K:ByteArray→Bool→World→Prop):Prop:=Calls Tp f a w fun e w1=>∃x0:ByteArray,∃x1:Bool,e=.returned (.tuple #[.string x0,.bool x1])∧K x0 x1 w1
abbrev C14 (f:Nat) (a:Array Value) (w:World) (K:Int→Int→Option Addr→Nat→Nat→Bool→World→Prop):Prop:=Calls Tp f a w fun e w1=>∃x0:Int,∃x1:Int,∃(x2:Option Addr) (x2a x2b:Nat),∃x3:Bool,e=.returned (.tuple #[Aguis x0 x1 x2 x2a x2b,.bool x3])∧K x0 x1 x2 x2a x2b x3 w1
abbrev C15 (f:Nat) (a:Array Value) (w:World) (K:ByteArray→Option Addr→Nat→Nat→Int→World→Prop):Prop:=Calls Tp f a w fun e w1=>∃x0:ByteArray,∃(x1:Option Addr) (x1a x1b:Nat),∃x2:Int,e=.returned (.tuple #[.string x0,.slice x1 x1a x1b,.int .i64 x2])∧K x0 x1 x1a x1b x2 w1
abbrev C16 (f:Nat) (a:Array Value) (w:World) (K:Int→World→Prop):Prop:=Calls Tp f a w fun e w1=>∃x0:Int,e=.returned (.int .u32 x0)∧K x0 w1
abbrev C17 (f:Nat) (a:Array Value) (w:World) (K:Int→Int→World→Prop):Prop:=Calls Tp f a w fun e w1=>∃x0:Int,∃x1:Int,e=.returned (.tuple #[.int .i64 x0,.int .i64 x1])∧K x0 x1 w1
abbrev C18 (f:Nat) (a:Array Value) (w:World) (K:Int→Int→Option Addr→Nat→Nat→Int→Int→World→Prop):Prop:=Calls Tp f a w fun e w1=>∃x0:Int,∃x1:Int,∃(x2:Option Addr) (x2a x2b:Nat),∃x3:Int,∃x4:Int,e=.returned (.tuple #[Aguis x0 x1 x2 x2a x2b,.int .u32 x3,.int .i64 x4])∧K x0 x1 x2 x2a x2b x3 x4 w1
abbrev C19 (f:Nat) (a:Array Value) (w:World) (K:Int→Int→Option Addr→Nat→Nat→Int→World→Prop):Prop:=Calls Tp f a w fun e w1=>∃x0:Int,∃x1:Int,∃(x2:Option Addr) (x2a x2b:Nat),∃x3:Int,e=.returned (.tuple #[Aguis x0 x1 x2 x2a x2b,.int .i64 x3])∧K x0 x1 x2 x2a x2b x3 w1
abbrev C2 (f:Nat) (a:Array Value) (w:World) (K:Bool→World→Prop):Prop:=Calls Tp f a w fun e w1=>∃x0:Bool,e=.returned (.bool x0)∧K x0 w1
abbrev C20 (f:Nat) (a:Array Value) (w:World) (K:ByteArray→ByteArray→World→Prop):Prop:=Calls Tp f a w fun e w1=>∃x0:ByteArray,∃x1:ByteArray,e=.returned (.tuple #[.string x0,.string x1])∧K x0 x1 w1
abbrev C21 (f:Nat) (a:Array Value) (w:World) (K:Int→World→Prop):Prop:=Calls Tp f a w fun e w1=>∃x0:Int,e=.returned (.int .u8 x0)∧K x0 w1
abbrev C22 (f:Nat) (a:Array Value) (w:World) (K:Int→Bool→World→Prop):Prop:=Calls Tp f a w fun e w1=>∃x0:Int,∃x1:Bool,e=.returned (.tuple #[.int .u8 x0,.bool x1])∧K x0 x1 w1
abbrev C23 (f:Nat) (a:Array Value) (w:World) (K:Int→World→Prop):Prop:=Calls Tp f a w fun e w1=>∃x0:Int,e=.returned (.int .i32 x0)∧K x0 w1
abbrev C3 (f:Nat) (a:Array Value) (w:World) (K:Int→World→Prop):Prop:=Calls Tp f a w fun e w1=>∃x0:Int,e=.returned (.int .i64 x0)∧K x0 w1
abbrev C4 (f:Nat) (a:Array Value) (w:World) (K:Int→Int→Int→World→Prop):Prop:=Calls Tp f a w fun e w1=>∃x0:Int,∃x1:Int,∃x2:Int,e=.returned ((Agiii x0 x1 x2))∧K x0 x1 x2 w1
abbrev C5 (f:Nat) (a:Array Value) (w:World) (K:Int→Int→Int→Option Addr→Nat→Nat→Option Addr→Nat→Nat→Int→Int→Int→Option Addr→Nat→Nat→Option Addr→Nat→Nat→Option Addr→Option Addr→Option Addr→Option Addr→Bool→World→Prop):Prop:=Calls Tp f a w fun e w1=>∃x0:Int,∃x1:Int,∃x2:Int,∃(x3:Option Addr) (x3a x3b:Nat),∃(x4:Option Addr) (x4a x4b:Nat),∃x5:Int,∃x6:Int,∃x7:Int,∃(x8:Option Addr) (x8a x8b:Nat),∃(x9:Option Addr) (x9a x9b:Nat),∃x10:Option Addr,∃x11:Option Addr,∃x12:Option Addr,∃x13:Option Addr,∃x14:Bool,e=.returned (.tuple #[Agiiissiiisspppp x0 x1 x2 x3 x3a x3b x4 x4a x4b x5 x6 x7 x8 x8a x8b x9 x9a x9b x10 x11 x12 x13,.bool x14])∧K x0 x1 x2 x3 x3a x3b x4 x4a x4b x5 x6 x7 x8 x8a x8b x9 x9a x9b x10 x11 x12 x13 x14 w1
abbrev C6 (f:Nat) (a:Array Value) (w:World) (K:ByteArray→Int→World→Prop):Prop:=Calls Tp f a w fun e w1=>∃x0:ByteArray,∃x1:Int,e=.returned (.tuple #[.string x0,.int .i64 x1])∧K x0 x1 w1
abbrev C7 (f:Nat) (a:Array Value) (w:World) (K:Option Addr→World→Prop):Prop:=Calls Tp f a w fun e w1=>∃x0:Option Addr,e=.returned (.pointer x0)∧K x0 w1
abbrev C8 (f:Nat) (a:Array Value) (w:World) (K:Option Addr→Option Addr→Nat→Nat→Int→World→Prop):Prop:=Calls Tp f a w fun e w1=>∃x0:Option Addr,∃(x1:Option Addr) (x1a x1b:Nat),∃x2:Int,e=.returned (.tuple #[.pointer x0,.slice x1 x1a x1b,.int .i64 x2])∧K x0 x1 x1a x1b x2 w1
abbrev C9 (f:Nat) (a:Array Value) (w:World) (K:Option Addr→Nat→Nat→Int→World→Prop):Prop:=Calls Tp f a w fun e w1=>∃(x0:Option Addr) (x0a x0b:Nat),∃x1:Int,e=.returned (.tuple #[.slice x0 x0a x0b,.int .i64 x1])∧K x0 x0a x0b x1 w1
def drive_New (n0:Int) (w:World) (R:Value→World→Prop):Prop:=
 Br (decide (n0<1)) (
 R (.pointer none) w) (
 Br (decide (n0>4096)) (
 R (.pointer none) w) (
 ∃(p10:Option Addr) (l10 c10:Nat),∃w1,(Instr.makeSlice 148 (.int .i64 n0) (.int .i64 n0)).run Tp w=.ok (.slice p10 l10 c10) w1∧
 AllocM w1 fun k11 w2=>
 AllocM w2 fun k12 w3=>
 Alloc #[.slice p10 l10 c10,.map (some k11),.map (some k12),.bool false,.int .i64 0,.bool false] 151 w3 fun k14 w4=>
 R (.pointer (some ⟨k14,0,none⟩)) w4))
theorem drive_New_calls {n0:Int}(h:drive_New n0 w R):Calls Tp 38 #[.int .i64 n0] w (RT R):=fnE (pl:=.o) callable Tryz.func38 h (by kernel_rfl)
def revetmentref04_New (n0:Int) (w:World) (R:Value→World→Prop):Prop:=
 Br (decide (n0<1)) (
 R (.pointer none) w) (
 Br (decide (n0>4096)) (
 R (.pointer none) w) (
 Alloc #[.slice none 0 0,.slice none 0 0,.slice none 0 0,.bool false,.bool false,.int .i64 0] 146 w fun k13 w1=>
 C0 43 #[] w1 fun s14 w2=>
 LoopP (fun I=>I [.int .i64 0] w2) fun K vs w3=>∃n5:Int,vs=[.int .i64 n5]∧
 Br (decide (n5<n0)) (
 ∃a22:Addr,(some ⟨k13,0,none⟩)=some a22∧
 ∃(p24:Option Addr) (l24 c24:Nat),w3.cell? a22=some (.slice p24 l24 c24)∧
 Alloc #[.string s14] 9 w3 fun k26 w4=>
 ∃(p27:Option Addr) (l27 c27:Nat),∃w5,(builtin .append #[54,54] 54 #[false,false] #[.slice p24 l24 c24,.slice (some ⟨k26,0,none⟩) 1 1]).run Tp w4=.ok (.value (.slice p27 l27 c27)) w5∧
 ∃a28:Addr,(some ⟨k13,0,none⟩)=some a28∧
 St a28 (.slice p27 l27 c27) w5 fun w6=>
 ∃a32:Addr,(some ⟨k13,0,none⟩)=some a32∧
 ∃(p34:Option Addr) (l34 c34:Nat),w6.cell? (a32.add 1)=some (.slice p34 l34 c34)∧
 Alloc #[.slice none 0 0] 54 w6 fun k35 w7=>
 ∃(p36:Option Addr) (l36 c36:Nat),∃w8,(builtin .append #[143,143] 143 #[false,false] #[.slice p34 l34 c34,.slice (some ⟨k35,0,none⟩) 1 1]).run Tp w7=.ok (.value (.slice p36 l36 c36)) w8∧
 ∃a37:Addr,(some ⟨k13,0,none⟩)=some a37∧
 St (a37.add 1) (.slice p36 l36 c36) w8 fun w9=>
 ∃a41:Addr,(some ⟨k13,0,none⟩)=some a41∧
 ∃(p43:Option Addr) (l43 c43:Nat),w9.cell? (a41.add 2)=some (.slice p43 l43 c43)∧
 Alloc #[.bool false] 4 w9 fun k44 w10=>
 ∃(p45:Option Addr) (l45 c45:Nat),∃w11,(builtin .append #[144,144] 144 #[false,false] #[.slice p43 l43 c43,.slice (some ⟨k44,0,none⟩) 1 1]).run Tp w10=.ok (.value (.slice p45 l45 c45)) w11∧
 ∃a46:Addr,(some ⟨k13,0,none⟩)=some a46∧
 St (a46.add 2) (.slice p45 l45 c45) w11 fun w12=>
 K [.int .i64 (IntKind.i64.wrap (n5+1))] w12) (
 R (.pointer (some ⟨k13,0,none⟩)) w3)))
theorem revetmentref04_New_calls {n0:Int}(h:revetmentref04_New n0 w R):Calls Tp 39 #[.int .i64 n0] w (RT R):=fnE (pl:=(.s .o (.s .o (.s .o (.s .o (.s (.s .o (.b (.l [(5,.one (.int .i64))] .o))) .o)))))) callable Tryz.func39 h (by kernel_rfl)
def revetmentref04_Blank (w:World) (R:Value→World→Prop):Prop:=
 LoopP (fun I=>I [.string (ByteArray.mk #[]),.int .i64 0] w) fun K vs w1=>∃s1:ByteArray,∃n2:Int,vs=[.string s1,.int .i64 n2]∧
 Br (decide (n2<64)) (
 ((s1.size+(ByteArray.mk #[0]).size:Nat):Int)≤9223372036854775807∧
 K [.string (s1++(ByteArray.mk #[0])),.int .i64 (IntKind.i64.wrap (n2+1))] w1) (
 R (.string s1) w1)
theorem revetmentref04_Blank_calls (h:revetmentref04_Blank w R):Calls Tp 43 #[] w (RT R):=fnE (pl:=(.s .o (.s .o (.s (.s .o (.b (.l [(1,.one .str),(2,.one (.int .i64))] .o))) .o)))) callable Tryz.func43 h (by kernel_rfl)
def slices_Sorted_int (v0:Value) (w:World) (R:Value→World→Prop):Prop:=
 C1 117 #[v0] w fun p5 l5 c5 w1=>
 Calls Tp 118 #[.slice p5 l5 c5] w1 fun e_1 w2=>e_1=.returned (.tuple #[])∧
 R (.slice p5 l5 c5) w2
theorem slices_Sorted_int_calls {v0:Value}(h:slices_Sorted_int v0 w R):Calls Tp 52 #[v0] w (RT R):=fnE (pl:=.o) callable Tryz.func52 h (by kernel_rfl)
def drive_Drive_Flush (p0:Option Addr) (w:World) (R:Value→World→Prop):Prop:=
 ∃a4:Addr,p0=some a4∧
 ∃b6:Bool,w.cell? (a4.add 3)=some (.bool b6)∧
 Br b6 (
 R (.int .i64 40) w) (
 C2 131 #[.pointer p0] w fun b8 w1=>
 Br b8 (
 R (.int .i64 42) w1) (
 ∃a10:Addr,p0=some a10∧
 ∃n12:Int,w1.cell? (a10.add 4)=some (.int .i64 n12)∧
 ∃a14:Addr,p0=some a14∧
 St (a14.add 4) (.int .i64 (IntKind.i64.wrap (n12-1))) w1 fun w2=>
 Calls Tp 76 #[.pointer p0,.func (.func 132) #[] #[]] w2 fun e_1 w3=>e_1=.returned (.tuple #[])∧
 R (.int .i64 0) w3))
theorem drive_Drive_Flush_calls {p0:Option Addr}(h:drive_Drive_Flush p0 w R):Calls Tp 62 #[.pointer p0] w (RT R):=fnE (pl:=.o) callable Tryz.func62 h (by kernel_rfl)
def drive_Drive_Write (p0:Option Addr) (n1:Int) (s2:ByteArray) (w:World) (R:Value→World→Prop):Prop:=
 Alloc #[.pointer p0] 35 w fun k3 w1=>
 Alloc #[.int .i64 n1] 3 w1 fun k4 w2=>
 ∃p7:Option Addr,w2.cell? ⟨k3,0,none⟩=some (.pointer p7)∧
 ∃n8:Int,w2.cell? ⟨k4,0,none⟩=some (.int .i64 n8)∧
 C3 138 #[.pointer p7,.int .i64 n8,.string s2,.func (.func 139) #[] #[.pointer (some ⟨k3,0,none⟩),.pointer (some ⟨k4,0,none⟩)]] w2 fun n11 w3=>
 R (.int .i64 n11) w3
theorem drive_Drive_Write_calls {p0:Option Addr}{n1:Int}{s2:ByteArray}(h:drive_Drive_Write p0 n1 s2 w R):Calls Tp 66 #[.pointer p0,.int .i64 n1,.string s2] w (RT R):=fnE (pl:=.o) callable Tryz.func66 h (by kernel_rfl)
def revetmentref04_Drive_Write (p0:Option Addr) (n1:Int) (s2:ByteArray) (w:World) (R:Value→World→Prop):Prop:=
 C3 144 #[.pointer p0,.int .i64 n1] w fun n11 w1=>
 Br (n11 != 0) (
 R (.int .i64 n11) w1) (
 Br ((s2.size:Int) != 64) (
 R (.int .i64 1) w1) (
 Alloc #[] 9 w1 fun k18 w2=>
 ∃a21:Addr,p0=some a21∧
 ∃(p23:Option Addr) (l23 c23:Nat),w2.cell? (a21.add 1)=some (.slice p23 l23 c23)∧
 ∃a25:Addr,p23=some a25∧(0:Int)≤n1∧n1<(l23:Int)∧
 ∃(p26:Option Addr) (l26 c26:Nat),w2.cell? (Addr.add a25 (n1.toNat*1))=some (.slice p26 l26 c26)∧
 ∃(p27:Option Addr) (l27 c27:Nat),∃w3,(builtin .append #[54,54] 54 #[false,false] #[.slice (some ⟨k18,0,none⟩) 0 0,.slice p26 l26 c26]).run Tp w2=.ok (.value (.slice p27 l27 c27)) w3∧
 ∃D:World→Prop,D w3.drew∧
 ∃a29:Addr,p0=some a29∧
 ∃(p31:Option Addr) (l31 c31:Nat),(∀w,D w→w.cell? (a29.add 1)=some (.slice p31 l31 c31))∧
 Alloc #[.string s2] 9 w3.drew fun k35 w4=>
 D w4∧
 ∃(p36:Option Addr) (l36 c36:Nat),∃w5,(builtin .append #[54,54] 54 #[false,false] #[.slice p27 l27 c27,.slice (some ⟨k35,0,none⟩) 1 1]).run Tp w4=.ok (.value (.slice p36 l36 c36)) w5∧
 D w5∧
 ∃a37:Addr,p31=some a37∧(0:Int)≤n1∧n1<(l31:Int)∧
 St (Addr.add a37 (n1.toNat*1)) (.slice p36 l36 c36) w5 fun w6=>
 ∃a39:Addr,p0=some a39∧
 ∃(p41:Option Addr) (l41 c41:Nat),w6.cell? (a39.add 2)=some (.slice p41 l41 c41)∧
 ∃a43:Addr,p41=some a43∧(0:Int)≤n1∧n1<(l41:Int)∧
 St (Addr.add a43 (n1.toNat*1)) (.bool false) w6 fun w7=>
 Calls Tp 145 #[.pointer p0] w7 fun e_1 w8=>e_1=.returned (.tuple #[])∧
 R (.int .i64 0) w8))
theorem revetmentref04_Drive_Write_calls {p0:Option Addr}{n1:Int}{s2:ByteArray}(h:revetmentref04_Drive_Write p0 n1 s2 w R):Calls Tp 70 #[.pointer p0,.int .i64 n1,.string s2] w (RT R):=fnE (pl:=.o) callable Tryz.func70 h (by kernel_rfl)
def drive_Drive_Sectors (p0:Option Addr) (w:World) (R:Value→World→Prop):Prop:=
 ∃a4:Addr,p0=some a4∧
 ∃(p6:Option Addr) (l6 c6:Nat),w.cell? a4=some (.slice p6 l6 c6)∧
 R (.int .i64 (l6:Int)) w
theorem drive_Drive_Sectors_calls {p0:Option Addr}(h:drive_Drive_Sectors p0 w R):Calls Tp 73 #[.pointer p0] w (RT R):=fnE (pl:=.o) callable Tryz.func73 h (by kernel_rfl)
def drive_Drive_settle (p0:Option Addr) (v1:Value) (w:World) (R:Value→World→Prop):Prop:=
 ∃a9:Addr,p0=some a9∧
 ∃m11:Option Nat,w.cell? (a9.add 1)=some (.map m11)∧
 Calls Tp 146 #[.map m11] w fun e w1=>∃v12:Value,e=.returned v12∧
 C1 52 #[v12] w1 fun p13 l13 c13 w2=>
 LoopP (fun I=>I [.int .i64 0] w2) fun K vs w3=>∃n15:Int,vs=[.int .i64 n15]∧
 Br (decide (n15<(l13:Int))) (
 ∃a18:Addr,p13=some a18∧(0:Int)≤n15∧n15<(l13:Int)∧
 ∃n19:Int,w3.cell? (Addr.add a18 (n15.toNat*1))=some (.int .i64 n19)∧
 ∃a21:Addr,p0=some a21∧
 ∃m23:Option Nat,w3.cell? (a21.add 1)=some (.map m23)∧
 ∃(p25:Option Addr) (l25 c25:Nat),∃w4,(Instr.lookup 149 (.map m23) (.int .i64 n19) false).run Tp w3=.ok (.slice p25 l25 c25) w4∧
 CallF Tp v1 [.int .i64 n15,.int .i64 (l25:Int)] w4 fun e_2 w5=>∃n30:Int,e_2=.returned (.int .i64 n30)∧
 Br (decide (n30>0)) (
 ∃D:World→Prop,D w5.drew∧
 ∃a34:Addr,p0=some a34∧
 ∃(p36:Option Addr) (l36 c36:Nat),(∀w,D w→w.cell? a34=some (.slice p36 l36 c36))∧
 ∃a41:Addr,p25=some a41∧(0:Int)≤IntKind.i64.wrap (n30-1)∧(IntKind.i64.wrap (n30-1))<(l25:Int)∧
 ∃z42:Array Value,z42.size=64∧(∀w,D w→bigAt w (Addr.add a41 ((IntKind.i64.wrap (n30-1)).toNat*64)) z42)∧
 ∃a43:Addr,p36=some a43∧(0:Int)≤n19∧n19<(l36:Int)∧
 ∃w6,(Instr.storeAt 208 (.pointer (some (Addr.add a43 (n19.toNat*64)))) (.agg z42)).run Tp w5.drew=.ok () w6∧
 K [.int .i64 (IntKind.i64.wrap (n15+1))] w6) (
 K [.int .i64 (IntKind.i64.wrap (n15+1))] w5)) (
 ∃a46:Addr,p0=some a46∧
 ∃m48:Option Nat,w3.cell? (a46.add 1)=some (.map m48)∧
 ∃w7,(builtin .clear #[149] 0 #[false] #[.map m48]).run Tp w3=.ok (.value (.tuple #[])) w7∧
 R (.tuple #[]) w7)
theorem drive_Drive_settle_calls {p0:Option Addr}{v1:Value}(h:drive_Drive_settle p0 v1 w R):Calls Tp 76 #[.pointer p0,v1] w (RT R):=fnE (pl:=(.s (.s .o (.b (.l [(15,.one (.int .i64))] .o))) .o)) callable Tryz.func76 h (by kernel_rfl)
def drive_Drive_Read (p0:Option Addr) (n1:Int) (w:World) (R:Value→World→Prop):Prop:=
 C3 147 #[.pointer p0,.int .i64 n1] w fun n10 w1=>
 ∃a12:Addr,p0=some a12∧
 ∃m14:Option Nat,w1.cell? (a12.add 1)=some (.map m14)∧
 ∃(p16:Option Addr) (l16 c16:Nat),∃w2,(Instr.lookup 149 (.map m14) (.int .i64 n1) false).run Tp w1=.ok (.slice p16 l16 c16) w2∧
 Br (n10 != 0) (
 R (.tuple #[.string (ByteArray.mk #[]),.int .i64 n10]) w2) (
 ∃a23:Addr,p0=some a23∧
 ∃m25:Option Nat,w2.cell? (a23.add 2)=some (.map m25)∧
 ∃b27:Bool,∃w3,(Instr.lookup 44 (.map m25) (.int .i64 n1) false).run Tp w2=.ok (.bool b27) w3∧
 Br b27 (
 R (.tuple #[.string (ByteArray.mk #[]),.int .i64 41]) w3) (
 Br (decide ((l16:Int)>0)) (
 ∃a36:Addr,p16=some a36∧(0:Int)≤IntKind.i64.wrap ((l16:Int)-1)∧(IntKind.i64.wrap ((l16:Int)-1))<(l16:Int)∧
 ∃(p37:Option Addr) (l37 c37:Nat),∃w4,(Instr.sliceAt 208 (.pointer (some (Addr.add a36 ((IntKind.i64.wrap ((l16:Int)-1)).toNat*64)))) none none none).run Tp w3=.ok (.slice p37 l37 c37) w4∧
 ∃s38:ByteArray,∃w5,(convert 86 9 (.slice p37 l37 c37)).run Tp w4=.ok (.string s38) w5∧
 R (.tuple #[.string s38,.int .i64 0]) w5) (
 ∃a40:Addr,p0=some a40∧
 ∃(p42:Option Addr) (l42 c42:Nat),w3.cell? a40=some (.slice p42 l42 c42)∧
 ∃a44:Addr,p42=some a44∧(0:Int)≤n1∧n1<(l42:Int)∧
 ∃(p45:Option Addr) (l45 c45:Nat),∃w6,(Instr.sliceAt 208 (.pointer (some (Addr.add a44 (n1.toNat*64)))) none none none).run Tp w3=.ok (.slice p45 l45 c45) w6∧
 ∃s46:ByteArray,∃w7,(convert 86 9 (.slice p45 l45 c45)).run Tp w6=.ok (.string s46) w7∧
 R (.tuple #[.string s46,.int .i64 0]) w7)))
theorem drive_Drive_Read_calls {p0:Option Addr}{n1:Int}(h:drive_Drive_Read p0 n1 w R):Calls Tp 78 #[.pointer p0,.int .i64 n1] w (RT R):=fnE (pl:=.o) callable Tryz.func78 h (by kernel_rfl)
def revetmentref04_Drive_Flush (p0:Option Addr) (w:World) (R:Value→World→Prop):Prop:=
 ∃a5:Addr,p0=some a5∧
 ∃b7:Bool,w.cell? (a5.add 3)=some (.bool b7)∧
 Br b7 (
 R (.int .i64 40) w) (
 C2 167 #[.pointer p0] w fun b9 w1=>
 Br b9 (
 R (.int .i64 42) w1) (
 Calls Tp 145 #[.pointer p0] w1 fun e_1 w2=>e_1=.returned (.tuple #[])∧
 LoopP (fun I=>I [.int .i64 0] w2) fun K vs w3=>∃n3:Int,vs=[.int .i64 n3]∧
 ∃a14:Addr,p0=some a14∧
 ∃(p16:Option Addr) (l16 c16:Nat),w3.cell? (a14.add 1)=some (.slice p16 l16 c16)∧
 Br (decide (n3<(l16:Int))) (
 ∃a24:Addr,p0=some a24∧
 ∃(p26:Option Addr) (l26 c26:Nat),w3.cell? (a24.add 1)=some (.slice p26 l26 c26)∧
 ∃a28:Addr,p26=some a28∧(0:Int)≤n3∧n3<(l26:Int)∧
 ∃(p29:Option Addr) (l29 c29:Nat),w3.cell? (Addr.add a28 (n3.toNat*1))=some (.slice p29 l29 c29)∧
 Calls Tp 168 #[.pointer p0,.int .i64 n3,.int .i64 (l29:Int)] w3 fun e_2 w4=>e_2=.returned (.tuple #[])∧
 K [.int .i64 (IntKind.i64.wrap (n3+1))] w4) (
 R (.int .i64 0) w3)))
theorem revetmentref04_Drive_Flush_calls {p0:Option Addr}(h:revetmentref04_Drive_Flush p0 w R):Calls Tp 96 #[.pointer p0] w (RT R):=fnE (pl:=(.s .o (.s .o (.s .o (.s .o (.s (.s .o (.b (.l [(3,.one (.int .i64))] .o))) .o)))))) callable Tryz.func96 h (by kernel_rfl)
def revetmentref04_Drive_Read (p0:Option Addr) (n1:Int) (w:World) (R:Value→World→Prop):Prop:=
 C3 144 #[.pointer p0,.int .i64 n1] w fun n10 w1=>
 Br (n10 != 0) (
 R (.tuple #[.string (ByteArray.mk #[]),.int .i64 n10]) w1) (
 ∃a15:Addr,p0=some a15∧
 ∃(p17:Option Addr) (l17 c17:Nat),w1.cell? (a15.add 2)=some (.slice p17 l17 c17)∧
 ∃a19:Addr,p17=some a19∧(0:Int)≤n1∧n1<(l17:Int)∧
 ∃b20:Bool,w1.cell? (Addr.add a19 (n1.toNat*1))=some (.bool b20)∧
 Br b20 (
 R (.tuple #[.string (ByteArray.mk #[]),.int .i64 41]) w1) (
 ∃a22:Addr,p0=some a22∧
 ∃(p24:Option Addr) (l24 c24:Nat),w1.cell? (a22.add 1)=some (.slice p24 l24 c24)∧
 ∃a26:Addr,p24=some a26∧(0:Int)≤n1∧n1<(l24:Int)∧
 ∃(p27:Option Addr) (l27 c27:Nat),w1.cell? (Addr.add a26 (n1.toNat*1))=some (.slice p27 l27 c27)∧
 Br (decide ((l27:Int)>0)) (
 ∃a32:Addr,p0=some a32∧
 ∃(p34:Option Addr) (l34 c34:Nat),w1.cell? (a32.add 1)=some (.slice p34 l34 c34)∧
 ∃a36:Addr,p34=some a36∧(0:Int)≤n1∧n1<(l34:Int)∧
 ∃(p37:Option Addr) (l37 c37:Nat),w1.cell? (Addr.add a36 (n1.toNat*1))=some (.slice p37 l37 c37)∧
 ∃a40:Addr,p37=some a40∧(0:Int)≤IntKind.i64.wrap ((l27:Int)-1)∧(IntKind.i64.wrap ((l27:Int)-1))<(l37:Int)∧
 ∃s41:ByteArray,w1.cell? (Addr.add a40 ((IntKind.i64.wrap ((l27:Int)-1)).toNat*1))=some (.string s41)∧
 R (.tuple #[.string s41,.int .i64 0]) w1) (
 ∃a43:Addr,p0=some a43∧
 ∃(p45:Option Addr) (l45 c45:Nat),w1.cell? a43=some (.slice p45 l45 c45)∧
 ∃a47:Addr,p45=some a47∧(0:Int)≤n1∧n1<(l45:Int)∧
 ∃s48:ByteArray,w1.cell? (Addr.add a47 (n1.toNat*1))=some (.string s48)∧
 R (.tuple #[.string s48,.int .i64 0]) w1)))
theorem revetmentref04_Drive_Read_calls {p0:Option Addr}{n1:Int}(h:revetmentref04_Drive_Read p0 n1 w R):Calls Tp 97 #[.pointer p0,.int .i64 n1] w (RT R):=fnE (pl:=.o) callable Tryz.func97 h (by kernel_rfl)
def slices_Collect_int (v0:Value) (w:World) (R:Value→World→Prop):Prop:=
 C1 188 #[.slice none 0 0,v0] w fun p4 l4 c4 w1=>
 R (.slice p4 l4 c4) w1
theorem slices_Collect_int_calls {v0:Value}(h:slices_Collect_int v0 w R):Calls Tp 117 #[v0] w (RT R):=fnE (pl:=.o) callable Tryz.func117 h (by kernel_rfl)
def drive_Drive_Dead (p0:Option Addr) (w:World) (R:Value→World→Prop):Prop:=
 ∃a4:Addr,p0=some a4∧
 ∃b6:Bool,w.cell? (a4.add 3)=some (.bool b6)∧
 R (.bool b6) w
theorem drive_Drive_Dead_calls {p0:Option Addr}(h:drive_Drive_Dead p0 w R):Calls Tp 123 #[.pointer p0] w (RT R):=fnE (pl:=.o) callable Tryz.func123 h (by kernel_rfl)
def drive_Drive_off (p0:Option Addr) (w:World) (R:Value→World→Prop):Prop:=
 ∃a4:Addr,p0=some a4∧
 ∃b6:Bool,w.cell? (a4.add 5)=some (.bool b6)∧
 Br b6 (
 ∃a9:Addr,p0=some a9∧
 ∃n11:Int,w.cell? (a9.add 4)=some (.int .i64 n11)∧
 R (.bool (n11==0)) w) (
 R (.bool false) w)
theorem drive_Drive_off_calls {p0:Option Addr}(h:drive_Drive_off p0 w R):Calls Tp 131 #[.pointer p0] w (RT R):=fnE (pl:=.o) callable Tryz.func131 h (by kernel_rfl)
def drive_Drive_Flush_1 (n0 n1:Int) (w:World) (R:Value→World→Prop):Prop:=
 R (.int .i64 n1) w
theorem drive_Drive_Flush_1_calls {n0 n1:Int}(h:drive_Drive_Flush_1 n0 n1 w R):Calls Tp 132 #[.int .i64 n0,.int .i64 n1] w (RT R):=fnE (pl:=.o) callable Tryz.func132 h (by kernel_rfl)
def drive_Drive_put (p0:Option Addr) (n1:Int) (s2:ByteArray) (v3:Value) (w:World) (R:Value→World→Prop):Prop:=
 C3 147 #[.pointer p0,.int .i64 n1] w fun n12 w1=>
 Join (fun vs w2=>∃n9:Int,vs=[.int .i64 n9]∧
 Br (n9==0) (
 ∃(p24:Option Addr) (l24 c24:Nat),∃w3,(convert 9 86 (.string s2)).run Tp w2=.ok (.slice p24 l24 c24) w3∧
 ∃a25:Addr,∃w4,(Instr.arrayAt 208 (.slice p24 l24 c24)).run Tp w3=.ok (.pointer (some a25)) w4∧
 ∃z26:Array Value,z26.size=64∧bigAt w4 a25 z26∧
 CallF Tp v3 [.agg z26] w4 fun e_1 w5=>e_1=.returned (.tuple #[])∧
 R (.int .i64 n9) w5) (
 R (.int .i64 n9) w2)) fun J=>
 Br (n12==0) (
 Br ((s2.size:Int) != 64) (
 J [.int .i64 1] w1) (
 J [.int .i64 n12] w1)) (
 J [.int .i64 n12] w1)
theorem drive_Drive_put_calls {p0:Option Addr}{n1:Int}{s2:ByteArray}{v3:Value}(h:drive_Drive_put p0 n1 s2 v3 w R):Calls Tp 138 #[.pointer p0,.int .i64 n1,.string s2,v3] w (RT R):=fnE (pl:=(.s .o (.s .o (.j [(9,.one (.int .i64))] .o .o)))) callable Tryz.func138 h (by kernel_rfl)
def drive_Drive_Write_1 (z0:Array Value) (k1:Addr) (k2:Addr) (w:World) (R:Value→World→Prop):Prop:=
 Alloc z0 208 w fun k3 w1=>
 ∃D:World→Prop,D w1.drew∧
 ∃p4:Option Addr,(∀w,D w→w.cell? k1=some (.pointer p4))∧
 ∃a5:Addr,p4=some a5∧
 ∃m7:Option Nat,(∀w,D w→w.cell? (a5.add 1)=some (.map m7))∧
 ∃n8:Int,(∀w,D w→w.cell? k2=some (.int .i64 n8))∧
 ∃p9:Option Addr,(∀w,D w→w.cell? k1=some (.pointer p9))∧
 ∃a10:Addr,p9=some a10∧
 ∃m12:Option Nat,(∀w,D w→w.cell? (a10.add 1)=some (.map m12))∧
 ∃n13:Int,(∀w,D w→w.cell? k2=some (.int .i64 n13))∧
 ∃(p14:Option Addr) (l14 c14:Nat),(∀w,D w→(Instr.lookup 149 (.map m12) (.int .i64 n13) false).run Tp w=.ok (.slice p14 l14 c14) w)∧
 ∃z15:Array Value,z15.size=64∧(∀w,D w→bigAt w ⟨k3,0,none⟩ z15)∧
 ∃(p16:Option Addr) (l16 c16:Nat),∃w2,(Instr.buildSlice 148 1 #[(0,.agg z15)]).run Tp w1.drew=.ok (.slice p16 l16 c16) w2∧
 D w2∧
 ∃(p17:Option Addr) (l17 c17:Nat),∃w3,(builtin .append #[148,148] 148 #[false,false] #[.slice p14 l14 c14,.slice p16 l16 c16]).run Tp w2=.ok (.value (.slice p17 l17 c17)) w3∧
 D w3∧
 ∃w4,(Instr.mapUpdate 149 (.map m7) (.int .i64 n8) (.slice p17 l17 c17)).run Tp w3=.ok () w4∧
 ∃D_1:World→Prop,D_1 w4.drew∧
 ∃p18:Option Addr,(∀w,D_1 w→w.cell? k1=some (.pointer p18))∧
 ∃a19:Addr,p18=some a19∧
 ∃m21:Option Nat,(∀w,D_1 w→w.cell? (a19.add 2)=some (.map m21))∧
 ∃n22:Int,(∀w,D_1 w→w.cell? k2=some (.int .i64 n22))∧
 ∃w5,(builtin .delete #[44,3] 0 #[false,false] #[.map m21,.int .i64 n22]).run Tp w4.drew=.ok (.value (.tuple #[])) w5∧
 ∃p23:Option Addr,w5.cell? k1=some (.pointer p23)∧
 ∃a24:Addr,p23=some a24∧
 ∃n26:Int,w5.cell? (a24.add 4)=some (.int .i64 n26)∧
 ∃a28:Addr,p23=some a28∧
 St (a28.add 4) (.int .i64 (IntKind.i64.wrap (n26-1))) w5 fun w6=>
 R (.tuple #[]) w6
theorem drive_Drive_Write_1_calls {z0:Array Value}{k1:Addr}{k2:Addr}(h:drive_Drive_Write_1 z0 k1 k2 w R):Calls Tp 139 #[.agg z0,.pointer (some k1),.pointer (some k2)] w (RT R):=fnE (pl:=.o) callable Tryz.func139 h (by kernel_rfl)
def revetmentref04_Drive_may (p0:Option Addr) (n1:Int) (w:World) (R:Value→World→Prop):Prop:=
 ∃a6:Addr,p0=some a6∧
 ∃b8:Bool,w.cell? (a6.add 3)=some (.bool b8)∧
 Br b8 (
 R (.int .i64 40) w) (
 C2 167 #[.pointer p0] w fun b10 w1=>
 Br b10 (
 R (.int .i64 42) w1) (
 Br (decide (n1<0)) (
 R (.int .i64 70) w1) (
 ∃a16:Addr,p0=some a16∧
 ∃(p18:Option Addr) (l18 c18:Nat),w1.cell? a16=some (.slice p18 l18 c18)∧
 Br (decide (n1≥(l18:Int))) (
 R (.int .i64 70) w1) (
 R (.int .i64 0) w1))))
theorem revetmentref04_Drive_may_calls {p0:Option Addr}{n1:Int}(h:revetmentref04_Drive_may p0 n1 w R):Calls Tp 144 #[.pointer p0,.int .i64 n1] w (RT R):=fnE (pl:=.o) callable Tryz.func144 h (by kernel_rfl)
def revetmentref04_Drive_use (p0:Option Addr) (w:World) (R:Value→World→Prop):Prop:=
 ∃a3:Addr,p0=some a3∧
 ∃b5:Bool,w.cell? (a3.add 4)=some (.bool b5)∧
 Br b5 (
 ∃a8:Addr,p0=some a8∧
 ∃n10:Int,w.cell? (a8.add 5)=some (.int .i64 n10)∧
 ∃a12:Addr,p0=some a12∧
 St (a12.add 5) (.int .i64 (IntKind.i64.wrap (n10-1))) w fun w1=>
 R (.tuple #[]) w1) (
 R (.tuple #[]) w)
theorem revetmentref04_Drive_use_calls {p0:Option Addr}(h:revetmentref04_Drive_use p0 w R):Calls Tp 145 #[.pointer p0] w (RT R):=fnE (pl:=.o) callable Tryz.func145 h (by kernel_rfl)
def drive_Drive_may (p0:Option Addr) (n1:Int) (w:World) (R:Value→World→Prop):Prop:=
 ∃a7:Addr,p0=some a7∧
 ∃b9:Bool,w.cell? (a7.add 3)=some (.bool b9)∧
 Br b9 (
 R (.int .i64 40) w) (
 C2 131 #[.pointer p0] w fun b12 w1=>
 Br b12 (
 R (.int .i64 42) w1) (
 Br (decide (n1<0)) (
 R (.int .i64 70) w1) (
 ∃a19:Addr,p0=some a19∧
 ∃(p21:Option Addr) (l21 c21:Nat),w1.cell? a19=some (.slice p21 l21 c21)∧
 Br (decide (n1≥(l21:Int))) (
 R (.int .i64 70) w1) (
 R (.int .i64 0) w1))))
theorem drive_Drive_may_calls {p0:Option Addr}{n1:Int}(h:drive_Drive_may p0 n1 w R):Calls Tp 147 #[.pointer p0,.int .i64 n1] w (RT R):=fnE (pl:=.o) callable Tryz.func147 h (by kernel_rfl)
def revetmentref04_Drive_off (p0:Option Addr) (w:World) (R:Value→World→Prop):Prop:=
 ∃a4:Addr,p0=some a4∧
 ∃b6:Bool,w.cell? (a4.add 4)=some (.bool b6)∧
 Br b6 (
 ∃a9:Addr,p0=some a9∧
 ∃n11:Int,w.cell? (a9.add 5)=some (.int .i64 n11)∧
 R (.bool (n11==0)) w) (
 R (.bool false) w)
theorem revetmentref04_Drive_off_calls {p0:Option Addr}(h:revetmentref04_Drive_off p0 w R):Calls Tp 167 #[.pointer p0] w (RT R):=fnE (pl:=.o) callable Tryz.func167 h (by kernel_rfl)
def revetmentref04_Drive_keep (p0:Option Addr) (n1 n2:Int) (w:World) (R:Value→World→Prop):Prop:=
 Join (fun vs w1=>vs=[]∧
 ∃a26:Addr,p0=some a26∧
 ∃(p28:Option Addr) (l28 c28:Nat),w1.cell? (a26.add 1)=some (.slice p28 l28 c28)∧
 ∃a30:Addr,p28=some a30∧(0:Int)≤n1∧n1<(l28:Int)∧
 St (Addr.add a30 (n1.toNat*1)) (.slice none 0 0) w1 fun w2=>
 R (.tuple #[]) w2) fun J=>
 Br (decide (n2>0)) (
 ∃D:World→Prop,D w.drew∧
 ∃a9:Addr,p0=some a9∧
 ∃(p11:Option Addr) (l11 c11:Nat),(∀w,D w→w.cell? a9=some (.slice p11 l11 c11))∧
 ∃a14:Addr,p0=some a14∧
 ∃(p16:Option Addr) (l16 c16:Nat),(∀w,D w→w.cell? (a14.add 1)=some (.slice p16 l16 c16))∧
 ∃a18:Addr,p16=some a18∧(0:Int)≤n1∧n1<(l16:Int)∧
 ∃(p19:Option Addr) (l19 c19:Nat),(∀w,D w→w.cell? (Addr.add a18 (n1.toNat*1))=some (.slice p19 l19 c19))∧
 ∃a22:Addr,p19=some a22∧(0:Int)≤IntKind.i64.wrap (n2-1)∧(IntKind.i64.wrap (n2-1))<(l19:Int)∧
 ∃s23:ByteArray,(∀w,D w→w.cell? (Addr.add a22 ((IntKind.i64.wrap (n2-1)).toNat*1))=some (.string s23))∧
 ∃a24:Addr,p11=some a24∧(0:Int)≤n1∧n1<(l11:Int)∧
 St (Addr.add a24 (n1.toNat*1)) (.string s23) w.drew fun w3=>
 J [] w3) (
 J [] w)
theorem revetmentref04_Drive_keep_calls {p0:Option Addr}{n1 n2:Int}(h:revetmentref04_Drive_keep p0 n1 n2 w R):Calls Tp 168 #[.pointer p0,.int .i64 n1,.int .i64 n2] w (RT R):=fnE (pl:=(.j [] .o .o)) callable Tryz.func168 h (by kernel_rfl)
def slices_AppendSeq_int_int (p0:Option Addr) (l0 c0:Nat) (v1:Value) (w:World) (R:Value→World→Prop):Prop:=
 Alloc #[.slice p0 l0 c0] 29 w fun k2 w1=>
 RangeP Tp v1 (fun ob l args W Φ=>∃n7:Int,args=[.int .i64 n7]∧
 RoundP ob l Φ (fun K X R w2=>
 ∃(p8:Option Addr) (l8 c8:Nat),w2.cell? ⟨k2,0,none⟩=some (.slice p8 l8 c8)∧
 Alloc #[.int .i64 n7] 3 w2 fun k10 w3=>
 ∃(p11:Option Addr) (l11 c11:Nat),∃w4,(builtin .append #[29,29] 29 #[false,false] #[.slice p8 l8 c8,.slice (some ⟨k10,0,none⟩) 1 1]).run Tp w3=.ok (.value (.slice p11 l11 c11)) w4∧
 St ⟨k2,0,none⟩ (.slice p11 l11 c11) w4 fun w5=>
 K w5) W) []
 (fun d w6=>
 ∃(p12:Option Addr) (l12 c12:Nat),w6.cell? ⟨k2,0,none⟩=some (.slice p12 l12 c12)∧
 w6.heap[d]?=some (.deferred (some []))∧
 R (.slice p12 l12 c12) (w6.putObj d (.deferred none)))
 (fun d_1 w7=>
 w7.heap[d_1]?=some (.deferred (some []))∧
 R (.slice none 0 0) (w7.putObj d_1 (.deferred none))) w1
theorem slices_AppendSeq_int_int_calls {p0:Option Addr}{l0 c0:Nat}{v1:Value}(h:slices_AppendSeq_int_int p0 l0 c0 v1 w R):Calls Tp 188 #[.slice p0 l0 c0,v1] w (RT R):=fnE (pl:=(.s .o (.s (.s .o (.b (.rf [(7,.one (.int .i64))] .o))) .o))) callable Tryz.func188 h (by kernel_rfl)
end Go.Proofs.YtkknkmplmilihaaGreat
