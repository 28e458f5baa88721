import Derived.Laws.IdiomStrings
import Derived.Lib.ConvBytes
import Derived.Laws.Strings
import Derived.Laws.BytesArg
import Derived.RowKit3
import Derived.Laws.MakeOwn
import Derived.Test.YtkknkmplmilihaaGreatD2
import Derived.Test.YtkknkmplmilihaaGreatD3
set_option linter.unusedVariables false
set_option maxHeartbeats 1000000
set_option maxRecDepth 20000
section
namespace Go.Proofs.YtkknkmplmilihaaGreat
open Go.Sh
def vals (s:ByteArray):List Value:=s.data.toList.map fun b=>.int .u8 b.toNat
def flat (l:List ByteArray):List Value:=l.flatMap vals
structure WE where
 k:Int
 g:Option Nat
 cap:Nat
 born:Nat
 l:List ByteArray
def WE.ent (e:WE):Ent:=(e.k,.slice (ptr e.g) e.l.length e.cap,e.born)
def WE.row (e:WE):A:=rowP 208 64 e.g e.l.length e.cap (flat e.l)
structure DL where
 p:Nat
 bs:Nat
 bm:Nat
 bp:Nat
 safe:List ByteArray
 ws:List WE
 clk:Nat
 sp:List Ent
 clk2:Nat
 dead:Bool
 left:Int
 cut:Bool
def drvL (D:DL):List A:=[blk D.p #[.slice (some ⟨D.bs,0,none⟩) D.safe.length D.safe.length,.map (some D.bm),.map (some D.bp),.bool D.dead,.int .i64 D.left,.bool D.cut] 151,
 rowP 208 64 (some D.bs) D.safe.length D.safe.length (flat D.safe),mapP D.bm (D.ws.map WE.ent) D.clk,mapP D.bp D.sp D.clk2]++D.ws.map WE.row
def offG (D:DL):Bool:=D.cut&&D.left==0
theorem off_spec (D:DL) (w:World) (h:Has w (drvL D)):Ret Tp 131 #[.pointer (some ⟨D.p,0,none⟩)] w (.bool (offG D)):=by
 refine ret_of (drive_Drive_off_calls ?_)
 unfold drive_Drive_off
 have hS:=S.start w
 repeat' (first|(refine Alloc.t (by assumption) ?_; intro _ _ _)|(refine Alloc.s (by assumption) ?_; intro _ _ _)|(exact Has.ldA (by assumption) (by assumption) (by repeat constructor) (by rfl))|(exact Has.ld (by assumption) (by assumption) (by repeat constructor) (by rfl))|(exact T.ldA (by assumption) (by repeat constructor) (by rfl))|(exact T.ld (by assumption) (by repeat constructor) (by rfl))|(refine St.tA (by assumption) (by repeat constructor) (by simp) (by rfl) rfl ?_; intro _ _)|(refine St.t (by assumption) (by repeat constructor) (by simp) (by rfl) rfl ?_; intro _ _)|(refine lex_t (by assumption) ?_; intro _)|(refine lex_s (by assumption) ?_; intro _)|(refine Join.intro fun J hJ=>?_)|(refine hJ _ _ ?_)|(refine dec_t ?_; intro _)|(refine dec_f ?_; intro _)|(refine not_t ?_)|(refine not_f ?_)|(refine beq_t ?_; intro _)|(refine beq_f ?_; intro _)|(refine bne_t ?_; intro _)|(refine bne_f ?_; intro _)|(with_reducible apply Exists.intro)|(exact rfl)|(exact S.ext (by assumption))|(show(_:Int)≤_; omega)|(show(_:Int)<_; omega)|(show(_:Int)≠_; omega)|(with_reducible apply And.intro)|(intro _)|(assumption))
 all_goals simp_all [offG]
def mayG (D:DL) (i:Int):Int:=if D.dead then 40 else if offG D then 42 else if i<0∨i≥(D.safe.length:Int) then 70 else 0
theorem may_spec (D:DL) (i:Int) (w:World) (h:Has w (drvL D)):Ret Tp 147 #[.pointer (some ⟨D.p,0,none⟩),.int .i64 i] w (.int .i64 (mayG D i)):=by
 refine ret_of (drive_Drive_may_calls ?_)
 unfold drive_Drive_may
 have hS:=S.start w
 repeat' (first|(refine Alloc.t (by assumption) ?_; intro _ _ _)|(refine Alloc.s (by assumption) ?_; intro _ _ _)|(exact Has.ldA (by assumption) (by assumption) (by repeat constructor) (by rfl))|(exact Has.ld (by assumption) (by assumption) (by repeat constructor) (by rfl))|(exact T.ldA (by assumption) (by repeat constructor) (by rfl))|(exact T.ld (by assumption) (by repeat constructor) (by rfl))|(refine St.tA (by assumption) (by repeat constructor) (by simp) (by rfl) rfl ?_; intro _ _)|(refine St.t (by assumption) (by repeat constructor) (by simp) (by rfl) rfl ?_; intro _ _)|(refine lex_t (by assumption) ?_; intro _)|(refine lex_s (by assumption) ?_; intro _)|(refine Ret.useS (by assumption) (off_spec D _ (h.ext (S.ext (by assumption)))) ?_; intro _ _)|(refine Join.intro fun J hJ=>?_)|(refine hJ _ _ ?_)|(refine dec_t ?_; intro _)|(refine dec_f ?_; intro _)|(refine not_t ?_)|(refine not_f ?_)|(refine beq_t ?_; intro _)|(refine beq_f ?_; intro _)|(refine bne_t ?_; intro _)|(refine bne_f ?_; intro _)|(with_reducible apply Exists.intro)|(exact rfl)|(exact S.ext (by assumption))|(show(_:Int)≤_; omega)|(show(_:Int)<_; omega)|(show(_:Int)≠_; omega)|(with_reducible apply And.intro)|(intro _)|(assumption))
 all_goals (refine retInt ?_; simp only[mayG]; simp_all<;>omega)
theorem data_len (s:ByteArray):s.data.toList.length=s.size:=Array.length_toList
theorem vals_len (s:ByteArray):(vals s).length=s.size:=by rw[vals,List.length_map,data_len]
theorem flat_len {l:List ByteArray}(h:∀s∈l,s.size=64):(flat l).length=l.length*64:=by
 induction l with
 |nil=>rfl
 |cons s l ih=>
  have h1:=h s List.mem_cons_self
  have h2:=ih fun x hx=>h x (List.mem_cons_of_mem _ hx)
  simp only[flat,List.flatMap_cons,List.length_append,vals_len,h1,List.length_cons]at h2⊢
  omega
theorem flat_get {l:List ByteArray}(h:∀s∈l,s.size=64):∀(i j:Nat) (s:ByteArray),l[i]?=some s→j<64→(flat l)[i*64+j]?=(vals s)[j]?:=by
 induction l with
 |nil=>intro i j s hs; simp at hs
 |cons x l ih=>
  intro i j s hs hj
  have hx:=h x List.mem_cons_self
  have e:flat (x::l)=vals x++flat l:=rfl
  rw[e]
  cases i with
  |zero=>
   simp at hs
   subst hs
   rw[List.getElem?_append_left (by rw[vals_len]; omega)]
   simp
  |succ i=>
   rw[List.getElem?_append_right (by rw[vals_len]; omega),vals_len,hx,show(i+1)*64+j-64=i*64+j by omega]
   exact ih (fun y hy=>h y (List.mem_cons_of_mem _ hy)) i j s (by simpa using hs) hj
theorem vals_get {s:ByteArray}{j:Nat}(hj:j<s.size):(vals s)[j]?=some (.int .u8 ((s.data.toList[j]'(by rw[data_len]; exact hj)).toNat:Int)):=by
 have h:j<s.data.toList.length:=by rw[data_len]; exact hj
 simp[vals,List.getElem?_map,List.getElem?_eq_getElem h]
theorem sec_slice (a:Addr) (w:World):(Instr.sliceAt 208 (.pointer (some a)) none none none).run Tp w=.ok (.slice (some a) 64 64) w:=by kernel_rfl
theorem sec_string {a:Addr}{s:ByteArray}{w:World}(hs:s.size=64) (h:∀j,j<64→w.cell? (a.add j)=(vals s)[j]?):(convert 86 9 (.slice (some a) 64 64)).run Tp w=.ok (.string s) w:=by
 have hl:s.data.toList.length=64:=by rw[data_len]; exact hs
 have h1:=run_convert_bytes_back (P:=Tp) w 86 9 5 a 64 s.data.toList (by kernel_rfl) (by kernel_rfl) (by kernel_rfl) (fun j hj=>by
  rw[h j (by omega),vals_get (by omega)])
 rw[hl]at h1
 simpa using h1
structure DOk (D:DL):Prop where
 s64:∀s∈D.safe,s.size=64
 n1:1≤D.safe.length∧D.safe.length≤4096
 w64:∀e∈D.ws,∀s∈e.l,s.size=64
 wk:∀e∈D.ws,0≤e.k∧e.k<(D.safe.length:Int)∧e.l≠[]
 wn:(D.ws.map (·.k)).Nodup
 sv:∀x∈D.sp,x.2.1=.bool true
 sn:(D.sp.map (·.1)).Nodup
 wb:∀e∈D.ws,e.born<D.clk
 wd:(D.ws.map (·.born)).Nodup
theorem row_cells {w0 w:World}{Γ:List A}{Δ:List (Nat×Obj)}(h:Has w0 Γ) (hS:S w0 w Δ){e:TypeId}{b n cap i:Nat}{l:List ByteArray}{s:ByteArray}(hm:rowP e 64 (some b) n cap (flat l)∈Γ) (h64:∀s∈l,s.size=64) (hs:l[i]?=some s):
  ∀j,j<64→w.cell? ((Addr.add ⟨b,0,none⟩ (i*64)).add j)=(vals s)[j]?:=by
 intro j hj
 have h64s:s.size=64:=h64 s (List.mem_of_getElem? hs)
 rw[addr_add,addr_add,Nat.zero_add,vals_get (by omega)]
 refine rowP.cell ((h.ext hS.ext).holds _ hm) ?_
 rw[flat_get h64 i j s hs hj,vals_get (by omega)]
def wfind (D:DL) (i:Int):Option WE:=D.ws.find? fun e=>e.k==i
theorem getK_ws (i:Int):∀ws:List WE,getK i (ws.map WE.ent)=(ws.find? fun e=>e.k==i).map fun e=>.slice (ptr e.g) e.l.length e.cap
 |[]=>rfl
 |e::ws=>by
  simp only[List.map_cons,getK,WE.ent,List.find?_cons]
  by_cases h:e.k=i
  ·simp[h]
  ·have:(e.k==i)=false:=by simpa using h
   simp only[h,if_false,this]
   exact getK_ws i ws
theorem getK_sp {i:Int}:∀{l:List Ent},(∀x∈l,x.2.1=.bool true)→(getK i l).getD (.bool false)=.bool (getK i l).isSome
 |[],_=>rfl
 |x::l,h=>by
  simp only[getK]
  split
  ·simp[h x List.mem_cons_self]
  ·exact getK_sp fun y hy=>h y (List.mem_cons_of_mem _ hy)
def spoiltG (D:DL) (i:Int):Bool:=(getK i D.sp).isSome
def topG (D:DL) (i:Int):ByteArray:=match wfind D i with
 |some e=>e.l.getLastD (ByteArray.mk #[])
 |none=>D.safe.getD i.toNat (ByteArray.mk #[])
def readG (D:DL) (i:Int):ByteArray×Int:=if mayG D i≠0 then (ByteArray.mk #[],mayG D i) else if spoiltG D i then (ByteArray.mk #[],41) else (topG D i,0)
theorem lookW {D:DL}{w0 w:World}{Δ:List (Nat×Obj)}(h:Has w0 (drvL D)) (hS:S w0 w Δ) (i:Int):
  (Instr.lookup 149 (.map (some D.bm)) (.int .i64 i) false).run Tp w=.ok (match wfind D i with|some e=>.slice (ptr e.g) e.l.length e.cap|none=>.slice none 0 0) w:=by
 have h1:=lookup_ints (P:=Tp) (t:=149) (kt:=3) (e:=148) (z:=.slice none 0 0) (w:=w) (b:=D.bm) (l:=D.ws.map WE.ent) (clock:=D.clk) (by kernel_rfl) (by kernel_rfl) (by kernel_rfl)
  (hS.ext.get (h.got (List.Mem.tail _ (List.Mem.tail _ (List.Mem.head _))))) i
 rw[h1,getK_ws]
 unfold wfind
 cases D.ws.find? fun e=>e.k==i<;>rfl
theorem lookS {D:DL}{w0 w:World}{Δ:List (Nat×Obj)}(h:Has w0 (drvL D)) (hS:S w0 w Δ) (hD:DOk D) (i:Int):
  (Instr.lookup 44 (.map (some D.bp)) (.int .i64 i) false).run Tp w=.ok (.bool (spoiltG D i)) w:=by
 have h1:=lookup_ints (P:=Tp) (t:=44) (kt:=3) (e:=4) (z:=.bool false) (w:=w) (b:=D.bp) (l:=D.sp) (clock:=D.clk2) (by kernel_rfl) (by kernel_rfl) (by kernel_rfl)
  (hS.ext.get (h.got (List.Mem.tail _ (List.Mem.tail _ (List.Mem.tail _ (List.Mem.head _)))))) i
 rw[h1,getK_sp hD.sv]; rfl
theorem wfind_mem {D:DL}{i:Int}{e:WE}(h:wfind D i=some e):e∈D.ws∧e.k=i:=by
 unfold wfind at h
 exact⟨List.mem_of_find?_eq_some h,by simpa using List.find?_some h⟩
theorem row_mem {D:DL}{e:WE}(h:e∈D.ws):e.row∈drvL D:=List.mem_append_right _ (List.mem_map_of_mem h)
theorem read_spec (D:DL) (i:Int) (w:World) (h:Has w (drvL D)) (hD:DOk D) (hL:∀e∈D.ws,e.l.length≤4611686018427387904):Ret Tp 78 #[.pointer (some ⟨D.p,0,none⟩),.int .i64 i] w (.tuple #[.string (readG D i).1,.int .i64 (readG D i).2]):=by
 refine ret_of (drive_Drive_Read_calls ?_)
 unfold drive_Drive_Read
 have hS:=S.start w
 refine Ret.useS hS (may_spec D i _ h) fun w1 hS1=>⟨_,rfl,_,rfl,_,h.ldA hS1 (by repeat constructor) rfl,?_⟩
 have hlk:=lookW h hS1 i
 have may0:mayG D i=0→0≤i∧i<(D.safe.length:Int):=by
  intro h0
  unfold mayG at h0
  split at h0
  ·cases h0
  split at h0
  ·cases h0
  split at h0
  ·cases h0
  ·omega
 cases hf:wfind D i with
 |none=>
  rw[hf]at hlk
  refine⟨_,_,_,_,hlk,bne_t fun hm=>⟨by simp only[readG,if_pos hm],hS1.ext⟩,bne_f fun hm=>⟨_,rfl,_,h.ldA hS1 (by repeat constructor) rfl,_,_,lookS h hS1 hD i,fun hs=>⟨by simp only[readG,hm,ne_eq,not_true,if_false,hs,if_true],hS1.ext⟩,fun hs=>⟨dec_t fun hx=>absurd hx (by simp),dec_f fun _=>?_⟩⟩⟩
  have hb:=may0 hm
  have hlt:i.toNat<D.safe.length:=by omega
  have hg:D.safe[i.toNat]?=some D.safe[i.toNat]:=List.getElem?_eq_getElem hlt
  have h64:=hD.s64 _ (List.mem_of_getElem? hg)
  refine⟨_,rfl,_,_,_,h.ld hS1 (by repeat constructor) rfl,_,rfl,by omega,by omega,_,_,_,_,sec_slice _ _,_,_,sec_string h64 (row_cells h hS1 (List.Mem.tail _ (List.Mem.head _)) hD.s64 hg),?_,hS1.ext⟩
  simp only[readG,hm,ne_eq,not_true,if_false,hs,Bool.false_eq_true,topG,hf,List.getD,hg,Option.getD_some]
 |some e=>
  rw[hf]at hlk
  obtain⟨hem,hek⟩:=wfind_mem hf
  have hne:=(hD.wk e hem).2.2
  have hpos:0<e.l.length:=by cases hl:e.l with|nil=>exact absurd hl hne|cons _ _=>simp
  have hll:=hL e hem
  obtain⟨b,hgb⟩:=rowP.pos (h.holds _ (row_mem hem)) hpos
  refine⟨_,_,_,_,hlk,bne_t fun hm=>⟨by simp only[readG,if_pos hm],hS1.ext⟩,bne_f fun hm=>⟨_,rfl,_,h.ldA hS1 (by repeat constructor) rfl,_,_,lookS h hS1 hD i,fun hs=>⟨by simp only[readG,hm,ne_eq,not_true,if_false,hs,if_true],hS1.ext⟩,fun hs=>⟨dec_t fun _=>?_,dec_f fun hx=>absurd hx (by omega)⟩⟩⟩
  have hw:IntKind.i64.wrap ((e.l.length:Int)-1)=(e.l.length:Int)-1:=wrap64 _ (by omega) (by omega)
  rw[hw,hgb]
  have ht:((e.l.length:Int)-1).toNat=e.l.length-1:=by omega
  have hg:e.l[((e.l.length:Int)-1).toNat]?=some (e.l.getLast hne):=by rw[ht,List.getLast_eq_getElem]; exact List.getElem?_eq_getElem (by omega)
  have h64:=hD.w64 e hem _ (List.mem_of_getElem? hg)
  have hrow:rowP 208 64 (some b) e.l.length e.cap (flat e.l)∈drvL D:=by
   have:=row_mem hem
   unfold WE.row at this
   rwa [hgb]at this
  refine⟨_,rfl,by omega,by omega,_,_,_,_,sec_slice _ _,_,_,sec_string h64 (row_cells h hS1 hrow (hD.w64 e hem) hg),?_,hS1.ext⟩
  simp only[readG,hm,ne_eq,not_true,if_false,hs,Bool.false_eq_true,topG,hf]
  rw[List.getLastD_eq_getLast?,List.getLast?_eq_some_getLast hne]; rfl
theorem pick_mid (x:A) (r:List A):∀l:List A,Pick x (l++x::r) (l++r)
 |[]=>.head
 |_::l=>.tail (pick_mid x r l)
theorem setK_mid (i:Int) (v:Value) (e:WE) (b:List WE) (he:e.k=i):∀a:List WE,(∀x∈a,x.k≠i)→setK i v ((a++e::b).map WE.ent)=a.map WE.ent++(i,v,e.born)::b.map WE.ent
 |[],_=>by simp[setK,WE.ent,he]
 |x::a,h=>by
  have hx:¬x.k=i:=h x List.mem_cons_self
  have:=setK_mid i v e b he a fun y hy=>h y (List.mem_cons_of_mem _ hy)
  simp only[List.cons_append,List.map_cons,setK,WE.ent,hx,if_false]at this⊢
  rw[this]
inductive Wr (i:Int) (s:ByteArray) (clk:Nat):List WE→List WE→Prop
 |new {ws:List WE} (g:Option Nat) (cap:Nat) (h:ws.find? (fun e=>e.k==i)=none):Wr i s clk ws (ws++[⟨i,g,cap,clk,[s]⟩])
 |old {a b:List WE} {e:WE} (g:Option Nat) (cap:Nat) (h:e.k=i) (ha:∀x∈a,x.k≠i):Wr i s clk (a++e::b) (a++⟨i,g,cap,e.born,e.l++[s]⟩::b)
structure Wrote (D:DL) (i:Int) (s:ByteArray) (D':DL):Prop where
 same:D'.p=D.p∧D'.bs=D.bs∧D'.bm=D.bm∧D'.bp=D.bp∧D'.safe=D.safe∧D'.dead=D.dead∧D'.cut=D.cut
 left:D'.left=IntKind.i64.wrap (D.left-1)
 sp:D'.sp=eraseK i D.sp
 ws:Wr i s D.clk D.ws D'.ws
 clk:D'.clk=clockK i (D.ws.map WE.ent) D.clk
structure WD (D:DL) (i:Int) (s:ByteArray) (k1 k2 k3:Nat) (w:World):Prop where
 h1:w.heap[k1]?=some (.cells #[.pointer (some ⟨D.p,0,none⟩)] 35 (0,0))
 h2:w.heap[k2]?=some (.cells #[.int .i64 i] 3 (0,0))
 h3:w.heap[D.p]?=some (.cells #[.slice (some ⟨D.bs,0,none⟩) D.safe.length D.safe.length,.map (some D.bm),.map (some D.bp),.bool D.dead,.int .i64 D.left,.bool D.cut] 151 (0,0))
 h4:w.heap[D.bm]?=some (.map ((D.ws.map WE.ent).map ent).toArray D.clk)
 h5:w.heap[k3]?=some (.cells (vals s).toArray 208 (0,0))
theorem write1_spec (D:DL) (i:Int) (s:ByteArray) (k1 k2:Nat){F:List Nat}{w0 w:World}(hT:T F w0 w (blk k1 #[.pointer (some ⟨D.p,0,none⟩)] 35::blk k2 #[.int .i64 i] 3::drvL D)) (hD:DOk D) (hs:s.size=64) (hL:∀e∈D.ws,e.l.length≤1000000):
  Calls Tp 139 #[.agg (vals s).toArray,.pointer (some ⟨k1,0,none⟩),.pointer (some ⟨k2,0,none⟩)] w fun e w'=>∃v,e=.returned v∧v=.tuple #[]∧∃D',Wrote D i s D'∧T F w0 w' (blk k1 #[.pointer (some ⟨D.p,0,none⟩)] 35::blk k2 #[.int .i64 i] 3::drvL D'):=by
 refine drive_Drive_Write_1_calls ?_
 unfold drive_Drive_Write_1
 have hz:(vals s).toArray.size=64:=by rw[List.size_toArray,vals_len,hs]
 refine Alloc.t hT fun k3 w1 hT1=>?_
 have hlit:litCells Tp 148 1 [(0,.agg (vals s).toArray)]=some ((vals s).toArray,208):=by
  have hc:Tp.cellsOf 208=64:=by kernel_rfl
  exact litOne (i:=Tryz.t208) (by kernel_rfl) (by kernel_rfl) (by rw[hc]; exact hz) (by rw[hc]; decide) (by rw[hc]; decide) (zv:=.agg (Array.replicate 64 (.int .u8 0))) (by kernel_rfl)
 have base:∀{F':List Nat} {w0' w':World} {Γ:List A},T F' w0' w' Γ→blk k1 #[.pointer (some ⟨D.p,0,none⟩)] 35∈Γ→blk k2 #[.int .i64 i] 3∈Γ→blk D.p #[.slice (some ⟨D.bs,0,none⟩) D.safe.length D.safe.length,.map (some D.bm),.map (some D.bp),.bool D.dead,.int .i64 D.left,.bool D.cut] 151∈Γ→mapP D.bm (D.ws.map WE.ent) D.clk∈Γ→blk k3 (vals s).toArray 208∈Γ→WD D i s k1 k2 k3 w':=
  fun h h1 h2 h3 h4 h5=>⟨h.got h1,h.got h2,h.got h3,h.got h4,h.got h5⟩
 have look:∀w,WD D i s k1 k2 k3 w→(Instr.lookup 149 (.map (some D.bm)) (.int .i64 i) false).run Tp w=.ok (match wfind D i with|some e=>.slice (ptr e.g) e.l.length e.cap|none=>.slice none 0 0) w:=by
  intro w hw
  rw[lookup_ints (P:=Tp) (t:=149) (kt:=3) (e:=148) (z:=.slice none 0 0) (w:=w) (b:=D.bm) (l:=D.ws.map WE.ent) (clock:=D.clk) (by kernel_rfl) (by kernel_rfl) (by kernel_rfl) hw.h4 i,getK_ws]
  unfold wfind
  cases D.ws.find? fun e=>e.k==i<;>rfl
 have big:∀w,WD D i s k1 k2 k3 w→bigAt w ⟨k3,0,none⟩ (vals s).toArray:=by
  intro w hw j hj
  rw[addr_add,Nat.zero_add]
  have:(vals s).toArray[j]?=some (vals s).toArray[j]:=by simp
  rw[this]
  exact cell_of hw.h5 this
 refine⟨WD D i s k1 k2 k3,base hT1.drew (by repeat constructor) (by repeat constructor) (by repeat constructor) (by repeat constructor) (by repeat constructor),_,fun w hw=>cell_of hw.h1 rfl,_,rfl,_,fun w hw=>(by rw[addr_add]; exact cell_of hw.h3 rfl),_,fun w hw=>cell_of hw.h2 rfl,_,fun w hw=>cell_of hw.h1 rfl,_,rfl,_,fun w hw=>(by rw[addr_add]; exact cell_of hw.h3 rfl),_,fun w hw=>cell_of hw.h2 rfl,?_⟩
 have hlr:=litCells_run (P:=Tp) (w:=w1.drew) (parts:=#[(0,.agg (vals s).toArray)]) hlit
 have hT2:=hT1.drew.alloc (.cells (vals s).toArray 208)
 have hnews:∀{F':List Nat} {w0' w':World} {Γ:List A} {b:Nat},T F' w0' w' Γ→blk b (vals s).toArray 208∈Γ→∀j u,(vals s)[j]?=some u→w'.cell? (Addr.add ⟨b,0,none⟩ j)=some u:=by
  intro F' w0' w' Γ b h hm j u hu
  rw[addr_add,Nat.zero_add]
  exact h.ld hm (by simpa using hu)
 have hone:∀u∈vals s,u.oneCell'=true:=by
  intro u hu
  obtain⟨b,_,rfl⟩:=List.mem_map.1 hu
  rfl
 have hvl:(vals s).length=1*64:=by rw[vals_len,hs]
 have hby:Tryz.t208.bytes=64:=by kernel_rfl
 have step:∃p0 l0 c0,(match wfind D i with|some e=>Value.slice (ptr e.g) e.l.length e.cap|none=>.slice none 0 0)=.slice p0 l0 c0∧
   ∀{w2:World} {b2:Nat},T F w0 w2 (blk b2 (vals s).toArray 208::blk k3 (vals s).toArray 208::blk k1 #[.pointer (some ⟨D.p,0,none⟩)] 35::blk k2 #[.int .i64 i] 3::drvL D)→
    ∃(p:Option Addr) (l c:Nat) (w3:World) (row':A) (rows:List A) (ws':List WE),(builtin .append #[148,148] 148 #[false,false] #[.slice p0 l0 c0,.slice (some ⟨b2,0,none⟩) 1 1]).run Tp w2=.ok (.value (.slice p l c)) w3∧
     T F w0 w3 (row'::blk b2 (vals s).toArray 208::blk k3 (vals s).toArray 208::blk k1 #[.pointer (some ⟨D.p,0,none⟩)] 35::blk k2 #[.int .i64 i] 3::((drvL D).take 4++rows))∧
     putK i (.slice p l c) (D.ws.map WE.ent) D.clk=ws'.map WE.ent∧clockK i (D.ws.map WE.ent) D.clk=clockK i (D.ws.map WE.ent) D.clk∧Wr i s D.clk D.ws ws'∧(row'::rows).Perm (ws'.map WE.row):=by
  cases hf:wfind D i with
  |none=>
   refine⟨none,0,0,rfl,fun {w2 b2} hT2=>?_⟩
   obtain⟨g',cap',w3,hr,hT3⟩:=append_t (P:=Tp) (t:=148) (ty:=148) (e:=208) (i:=Tryz.t208) (z:=.agg (Array.replicate 64 (.int .u8 0))) (size:=64) #[false,false] (by kernel_rfl) (by kernel_rfl) (by kernel_rfl) (by kernel_rfl) (by kernel_rfl)
    (hT2.nilRow 208 64) .head (a:=⟨b2,0,none⟩) (m:=1) (c:=1) (news:=vals s) hvl (hnews hT2 (by repeat constructor)) hone (by decide) (by rw[hby]; decide)
   refine⟨_,_,_,w3,_,D.ws.map WE.row,D.ws++[⟨i,g',cap',D.clk,[s]⟩],hr,hT3,?_,rfl,.new g' cap' hf,?_⟩
   ·have:getK i (D.ws.map WE.ent)=none:=by rw[getK_ws]; unfold wfind at hf; rw[hf]; rfl
    simp[putK,this,WE.ent]
   ·rw[List.map_append]
    have e:rowP 208 64 g' (0+1) cap' ([]++vals s)=WE.row ⟨i,g',cap',D.clk,[s]⟩:=by simp[WE.row,flat]
    rw[e]
    exact(List.perm_append_singleton _ _).symm
  |some e=>
   refine⟨_,_,_,rfl,fun {w2 b2} hT2=>?_⟩
   obtain⟨hek,a,b,hws,ha⟩:=List.find?_eq_some_iff_append.1 (show D.ws.find? (fun e=>e.k==i)=some e from hf)
   have hek:e.k=i:=by simpa using hek
   have ha:∀x∈a,x.k≠i:=fun x hx=>by have:=ha x hx; simpa using this
   have hll:=hL e (by rw[hws]; simp)
   have hpk:Pick e.row (blk b2 (vals s).toArray 208::blk k3 (vals s).toArray 208::blk k1 #[.pointer (some ⟨D.p,0,none⟩)] 35::blk k2 #[.int .i64 i] 3::drvL D)
     (blk b2 (vals s).toArray 208::blk k3 (vals s).toArray 208::blk k1 #[.pointer (some ⟨D.p,0,none⟩)] 35::blk k2 #[.int .i64 i] 3::((drvL D).take 4++(a.map WE.row++b.map WE.row))):=by
    have h1:=pick_mid e.row (b.map WE.row) (blk b2 (vals s).toArray 208::blk k3 (vals s).toArray 208::blk k1 #[.pointer (some ⟨D.p,0,none⟩)] 35::blk k2 #[.int .i64 i] 3::((drvL D).take 4++a.map WE.row))
    simp only[List.cons_append,List.append_assoc]at h1
    have h2:drvL D=(drvL D).take 4++D.ws.map WE.row:=rfl
    have h3:D.ws.map WE.row=a.map WE.row++e.row::b.map WE.row:=by rw[hws,List.map_append,List.map_cons]
    rw[←h3,←h2]at h1
    exact h1
   obtain⟨g',cap',w3,hr,hT3⟩:=append_t (P:=Tp) (t:=148) (ty:=148) (e:=208) (i:=Tryz.t208) (z:=.agg (Array.replicate 64 (.int .u8 0))) (size:=64) #[false,false] (by kernel_rfl) (by kernel_rfl) (by kernel_rfl) (by kernel_rfl) (by kernel_rfl)
    hT2 hpk (a:=⟨b2,0,none⟩) (m:=1) (c:=1) (news:=vals s) hvl (hnews hT2 (by repeat constructor)) hone (by simp only[maxLen]; omega) (by rw[hby]; omega)
   refine⟨_,_,_,w3,_,a.map WE.row++b.map WE.row,a++⟨i,g',cap',e.born,e.l++[s]⟩::b,hr,hT3,?_,rfl,by rw[hws]; exact .old g' cap' hek ha,?_⟩
   ·have:getK i (D.ws.map WE.ent)=some (.slice (ptr e.g) e.l.length e.cap):=by rw[getK_ws]; unfold wfind at hf; rw[hf]; rfl
    rw[putK,this,hws]
    simp only[Option.isSome_some,if_true]
    rw[setK_mid i _ e b hek a ha]
    simp[WE.ent]
   ·have e1:rowP 208 64 g' (e.l.length+1) cap' (flat e.l++vals s)=WE.row ⟨i,g',cap',e.born,e.l++[s]⟩:=by simp[WE.row,flat]
    rw[e1,List.map_append,List.map_cons]
    exact List.perm_middle.symm
 obtain⟨p0,l0,c0,hlk,step⟩:=step
 rw[hlk]at look
 obtain⟨p,l,c,w3,row',rows,ws',hr,hT3,hput,-,hwr,hperm⟩:=step hT2
 refine⟨_,_,_,look,_,hz,big,_,_,_,_,hlr,base hT2 (by repeat constructor) (by repeat constructor) (by repeat constructor) (by repeat constructor) (by repeat constructor),_,_,_,w3,hr,base hT3 (by repeat constructor) (by repeat constructor) (by repeat constructor) (by repeat constructor) (by repeat constructor),?_⟩
 obtain⟨w4,hu,hT4⟩:=mapUpdate_t (P:=Tp) (t:=149) (kt:=3) (e:=148) (k:=i) (v:=.slice p l c) (b:=D.bm) (l:=D.ws.map WE.ent) (clock:=D.clk) (by kernel_rfl) (by kernel_rfl) hT3 (.tail (.tail (.tail (.tail (.tail (.tail (.tail .head)))))))
 obtain⟨w5,hd,hT5⟩:=delete_t (P:=Tp) (t:=44) (kt:=3) (e:=4) (ty:=0) (ts:=#[44,3]) (cs:=#[false,false]) (k:=i) (b:=D.bp) (l:=D.sp) (clock:=D.clk2) rfl (by kernel_rfl) (by kernel_rfl) hT4.drew (.tail (.tail (.tail (.tail (.tail (.tail (.tail (.tail .head))))))))
 refine⟨w4,hu,fun w=>w.cell? ⟨k1,0,none⟩=some (.pointer (some ⟨D.p,0,none⟩))∧w.cell? ⟨k2,0,none⟩=some (.int .i64 i)∧w.cell? (Addr.add ⟨D.p,0,none⟩ 2)=some (.map (some D.bp)),⟨hT4.drew.ld (by repeat constructor) rfl,hT4.drew.ld (by repeat constructor) rfl,hT4.drew.ldA (by repeat constructor) rfl⟩,_,fun w hw=>hw.1,_,rfl,_,fun w hw=>hw.2.2,_,fun w hw=>hw.2.1,w5,hd,_,hT5.ld (by repeat constructor) rfl,_,rfl,_,hT5.ldA (by repeat constructor) rfl,_,rfl,?_⟩
 refine St.tA hT5 (.tail (.tail (.tail (.tail (.tail .head))))) (by simp) (by rfl) rfl fun w6 hT6=>⟨rfl,?_⟩
 refine⟨{ D with left:=IntKind.i64.wrap (D.left-1),sp:=eraseK i D.sp,ws:=ws',clk:=clockK i (D.ws.map WE.ent) D.clk },⟨⟨rfl,rfl,rfl,rfl,rfl,rfl,rfl⟩,rfl,rfl,hwr,rfl⟩,?_⟩
 rw[hput]at hT6
 have hp:=(hperm.append_left (blk k1 #[.pointer (some ⟨D.p,0,none⟩)] 35::blk k2 #[.int .i64 i] 3::(drvL { D with left:=IntKind.i64.wrap (D.left-1),sp:=eraseK i D.sp,ws:=ws',clk:=clockK i (D.ws.map WE.ent) D.clk }).take 4))
 refine T.swap (T.drop (T.drop (hT6.swap (((List.Perm.swap _ _ _).trans ((List.Perm.swap _ _ _).cons _)))))) ?_
 exact List.perm_middle.symm.trans hp
theorem bytes_ext (w:World) (e:TypeId) (s:ByteArray):Ext w (Go.Lib.bytesWorld w e s):=
 ⟨rfl,rfl,by rw[Go.Lib.bytesWorld_size]; omega,fun b hb=>Go.Lib.bytesWorld_at_old w e s b hb⟩
theorem T.sub {F:List Nat}{w0 w:World}{X Δ:List A}(h:T F w0 w (X++Δ)):Has w Δ:=by
 have hn:=h.nodup
 rw[feet_append,List.nodup_append]at hn
 exact⟨hn.2.1,fun b hb=>(h.own b (by rw[feet_append]; exact List.mem_append_right _ hb)).1,fun a ha=>h.holds a (List.mem_append_right _ ha)⟩
def putG (D:DL) (i:Int) (s:ByteArray):Int:=if mayG D i≠0 then mayG D i else if s.size≠64 then 1 else 0
theorem arr_at (a:Addr) (c:Nat) (w:World):(Instr.arrayAt 208 (.slice (some a) 64 c)).run Tp w=.ok (.pointer (some a)) w:=by kernel_rfl
theorem T.subL {F:List Nat}{w0 w:World}{Γ Δ:List A}(h:T F w0 w (Γ++Δ)):Has w Γ:=T.sub (X:=Δ) (h.swap List.perm_append_comm)
theorem CallF.func {P:Program}{f:FuncId}{first captured:Array Value}{args:List Value}{w:World}{Ψ:Ending→World→Prop}(hb:bodyB P f=true) (h:Calls P f (first.toList++args++captured.toList).toArray w Ψ):CallF P (.func (.func f) first captured) args w Ψ:=by
 show if bodyB P f then _ else _
 rw[if_pos hb]
 exact h
theorem CallF.mono {P:Program}{fv:Value}{args:List Value}{w:World}{Ψ Ψ':Ending→World→Prop}(h:CallF P fv args w Ψ) (hm:∀e w,Ψ e w→Ψ' e w):CallF P fv args w Ψ':=by
 unfold CallF at *
 split at h
 ·split at h
  ·rename_i hb
   simp only[hb,if_true]
   exact Calls.mono h hm
  ·exact h.elim
 ·rename_i hne
  exact Does.mono h fun v w' hv=>hm _ _ hv
theorem put_spec (D:DL) (i:Int) (s:ByteArray) (fv:Value){F:List Nat}{w0 w:World}{X:List A}{Φ:World→Prop}(hT:T F w0 w (X++drvL D))
  (hcl:mayG D i=0→s.size=64→∀w1,T F w0 w1 (X++drvL D)→CallF Tp fv [.agg (vals s).toArray] w1 fun e w'=>e=.returned (.tuple #[])∧Φ w'):
  Calls Tp 138 #[.pointer (some ⟨D.p,0,none⟩),.int .i64 i,.string s,fv] w fun e w'=>∃v,e=.returned v∧v=.int .i64 (putG D i s)∧(putG D i s=0→Φ w')∧(putG D i s≠0→T F w0 w' (X++drvL D)):=by
 refine drive_Drive_put_calls ?_
 unfold drive_Drive_put
 refine Ret.useT hT (may_spec D i _ (T.sub hT)) fun w1 hT1=>⟨_,rfl,?_⟩
 refine Join.intro fun J hJ=>?_
 have done:∀(n:Int),n≠0→putG D i s=n→J [.int .i64 n] w1:=fun n hn hp=>by
  refine hJ _ _ ⟨_,rfl,beq_t fun h=>absurd h hn,beq_f fun _=>⟨by rw[hp],fun h0=>absurd (hp▸h0) hn,fun _=>hT1⟩⟩
 refine⟨beq_t fun hm=>⟨bne_t fun hs=>done 1 (by omega) ?_,bne_f fun hs=>?_⟩,beq_f fun hm=>done _ hm (by simp only[putG,if_pos hm])⟩
 ·simp only[putG,hm,ne_eq,not_true,if_false]
  rw[if_pos (by omega)]
 ·have hs:s.size=64:=by omega
  have hp:putG D i s=0:=by simp[putG,hm,hs]
  rw[hm]
  refine hJ _ _ ⟨_,rfl,beq_t fun _=>?_,beq_f fun h=>absurd rfl h⟩
  have hc:=Go.Lib.run_convert_string_bytes (P:=Tp) (u:=.string) w1 9 86 5 s (by kernel_rfl) (by kernel_rfl) (by kernel_rfl)
  rw[hs]at hc
  have hx:=bytes_ext w1 5 s
  refine⟨_,_,_,_,hc,_,_,arr_at _ _ _,(vals s).toArray,by rw[List.size_toArray,vals_len,hs],?_,?_⟩
  ·intro j hj
   rw[List.size_toArray,vals_len,hs]at hj
   rw[addr_add,Nat.zero_add,Go.Lib.bytesWorld_cell w1 _ s j (by omega)]
   have:=vals_get (s:=s) (j:=j) (by omega)
   rw[List.getElem?_toArray,this]
   have hl:j<s.data.toList.length:=by rw[data_len]; omega
   simp[List.getD,List.getElem?_eq_getElem hl]
  ·refine CallF.mono (hcl hm hs _ (hT1.quiet hx)) fun e w' ⟨he,hφ⟩=>⟨he,by rw[hp],fun _=>hφ,fun h=>absurd hp h⟩
theorem write_spec (D:DL) (i:Int) (s:ByteArray){F:List Nat}{w0 w:World}{X:List A}(hT:T F w0 w (X++drvL D)) (hD:DOk D) (hL:∀e∈D.ws,e.l.length≤1000000):
  Calls Tp 66 #[.pointer (some ⟨D.p,0,none⟩),.int .i64 i,.string s] w fun e w'=>∃v,e=.returned v∧v=.int .i64 (putG D i s)∧∃D',(putG D i s=0→Wrote D i s D')∧(putG D i s≠0→D'=D)∧T F w0 w' (X++drvL D'):=by
 refine drive_Drive_Write_calls ?_
 unfold drive_Drive_Write
 refine Alloc.t hT fun k3 w1 hT1=>Alloc.t hT1 fun k4 w2 hT2=>⟨_,hT2.ld (by repeat constructor) rfl,_,hT2.ld (by repeat constructor) rfl,?_⟩
 refine(put_spec D i s _ (X:=blk k4 #[.int .i64 i] 3::blk k3 #[.pointer (some ⟨D.p,0,none⟩)] 35::X) (Φ:=fun w'=>∃D',Wrote D i s D'∧T F w0 w' (X++drvL D')) hT2 fun hm hs w3 hT3=>?_).mono fun e w' ⟨v,he,hv,h0,h1⟩=>⟨_,hv▸he,rfl,?_⟩
 ·have hp1:(blk k4 #[.int .i64 i] 3::blk k3 #[.pointer (some ⟨D.p,0,none⟩)] 35::X++drvL D).Perm ((blk k3 #[.pointer (some ⟨D.p,0,none⟩)] 35::blk k4 #[.int .i64 i] 3::drvL D)++X):=
   (List.Perm.swap _ _ _).trans ((List.perm_append_comm.cons _).cons _)
  have hT4:=hT3.swap hp1
  have h4:=write1_spec D i s k3 k4 (T.subL hT4).start hD hs hL
  refine CallF.func (by kernel_rfl) ?_
  refine Calls.mono h4 fun e w' ⟨v,he,hv,D',hw,ht⟩=>⟨hv▸he,D',hw,?_⟩
  have ht2:=T.call hT4 ht
  exact(T.drop (T.drop ht2)).swap List.perm_append_comm
 ·by_cases hp:putG D i s=0
  ·obtain⟨D',hw,ht⟩:=h0 hp
   exact⟨D',fun _=>hw,fun h=>absurd hp h,ht⟩
  ·exact⟨D,fun h=>absurd h hp,fun _=>rfl,T.drop (T.drop (h1 hp))⟩
theorem dead_spec (D:DL) (w:World) (h:Has w (drvL D)):Ret Tp 123 #[.pointer (some ⟨D.p,0,none⟩)] w (.bool D.dead):=by
 refine ret_of (drive_Drive_Dead_calls ?_)
 unfold drive_Drive_Dead
 have hS:=S.start w
 repeat' (first|(refine Alloc.t (by assumption) ?_; intro _ _ _)|(refine Alloc.s (by assumption) ?_; intro _ _ _)|(exact Has.ldA (by assumption) (by assumption) (by repeat constructor) (by rfl))|(exact Has.ld (by assumption) (by assumption) (by repeat constructor) (by rfl))|(exact T.ldA (by assumption) (by repeat constructor) (by rfl))|(exact T.ld (by assumption) (by repeat constructor) (by rfl))|(refine St.tA (by assumption) (by repeat constructor) (by simp) (by rfl) rfl ?_; intro _ _)|(refine St.t (by assumption) (by repeat constructor) (by simp) (by rfl) rfl ?_; intro _ _)|(refine lex_t (by assumption) ?_; intro _)|(refine lex_s (by assumption) ?_; intro _)|(refine Join.intro fun J hJ=>?_)|(refine hJ _ _ ?_)|(refine dec_t ?_; intro _)|(refine dec_f ?_; intro _)|(refine not_t ?_)|(refine not_f ?_)|(refine beq_t ?_; intro _)|(refine beq_f ?_; intro _)|(refine bne_t ?_; intro _)|(refine bne_f ?_; intro _)|(with_reducible apply Exists.intro)|(exact rfl)|(exact S.ext (by assumption))|(show(_:Int)≤_; omega)|(show(_:Int)<_; omega)|(show(_:Int)≠_; omega)|(with_reducible apply And.intro)|(intro _)|(assumption))
theorem flat_app (a b:List ByteArray):flat (a++b)=flat a++flat b:=by simp[flat]
theorem flat_set {l:List ByteArray}(h:∀s∈l,s.size=64){i:Nat}(hi:i<l.length){s:ByteArray}(hs:s.size=64):
  (flat l).take (i*64)++vals s++(flat l).drop (i*64+64)=flat (l.set i s):=by
 have h1:l=l.take i++l[i]::l.drop (i+1):=by rw[List.getElem_cons_drop,List.take_append_drop]
 have ht:(flat (l.take i)).length=i*64:=by rw[flat_len fun x hx=>h x (List.mem_of_mem_take hx)]; rw[List.length_take]; congr 1; omega
 have hc:(vals l[i]).length=64:=by rw[vals_len,h _ (List.getElem_mem hi)]
 have e1:flat l=flat (l.take i)++(vals l[i]++flat (l.drop (i+1))):=by
  conv=>lhs; rw[h1]
  rw[flat_app]; rfl
 have e2:l.set i s=l.take i++s::l.drop (i+1):=List.set_eq_take_append_cons_drop .. |>.trans (by rw[if_pos hi])
 rw[e2,flat_app,e1,List.take_left' ht,←List.drop_drop,List.drop_left' ht,List.drop_left' hc,List.append_assoc]
 rfl
end Go.Proofs.YtkknkmplmilihaaGreat
end
section
namespace Go.Proofs.YtkknkmplmilihaaGreat
open Go.Sh Go.RowKit
theorem no {c:Bool}{A B:Prop}(h:c=false) (hb:B):(c=true→A)∧(c=false→B):=⟨fun e=>(by rw[h]at e; cases e),fun _=>hb⟩
theorem yes {c:Bool}{A B:Prop}(h:c=true) (ha:A):(c=true→A)∧(c=false→B):=⟨fun _=>ha,fun e=>(by rw[h]at e; cases e)⟩
theorem same_str (s:ByteArray):(s.toList==s.toList)=true:=by simp
theorem slice_to {P:Program}{t:TypeId}{s:ByteArray}{k:IntKind}{hi:Int}{w:World}(ht:P.underlying t=some .string) (h0:0≤hi) (h2:hi≤(s.size:Int)):
  (Instr.sliceAt t (.string s) none (some (.int k hi)) none).run P w=.ok (.string (s.extract 0 hi.toNat)) w:=by
 have h3:0≤hi∧hi≤(s.size:Int):=⟨h0,h2⟩
 simp[Instr.sliceAt,Instr.slice,Instr.sliceBounds,Instr.sliceBound,asIntOf,underlying_run ht,h3]
theorem slice_from {P:Program}{t:TypeId}{s:ByteArray}{k:IntKind}{lo:Int}{w:World}(ht:P.underlying t=some .string) (h0:0≤lo) (h2:lo≤(s.size:Int)):
  (Instr.sliceAt t (.string s) (some (.int k lo)) none none).run P w=.ok (.string (s.extract lo.toNat s.size)) w:=by
 have h3:0≤lo∧lo≤(s.size:Int):=⟨h0,h2⟩
 simp[Instr.sliceAt,Instr.slice,Instr.sliceBounds,Instr.sliceBound,asIntOf,underlying_run ht,h3]
theorem wrap8 (n:Int):IntKind.u8.wrap n=n%256:=by simp[IntKind.wrap,IntKind.bits,IntKind.signed]
theorem index_str {P:Program}{t:TypeId}{s:ByteArray}{k:IntKind}{n:Int}{w:World}(ht:P.underlying t=some .string) (h0:0≤n) (h1:n<(s.size:Int)):(Instr.index t (.string s) (.int k n)).run P w=.ok (.int .u8 ((s.data.toList.getD n.toNat 0).toNat:Int)) w:=by
 have hn:n.toNat<s.size:=by omega
 have hn2:n.toNat<s.data.toList.length:=by rw[Array.length_toList]; exact hn
 simp[Instr.index,asIntOf,underlying_run ht,h0,h1]
 rfl
def bvals (l:List UInt8):List Value:=l.map fun b=>.int .u8 b.toNat
theorem bvals_len (l:List UInt8):(bvals l).length=l.length:=List.length_map ..
theorem bvals_get (l:List UInt8) (i:Nat):(bvals l)[i]?=l[i]?.map fun b=>.int .u8 b.toNat:=by simp[bvals]
abbrev strB (l:List UInt8):ByteArray:=⟨l.toArray⟩
theorem strB_size (l:List UInt8):(strB l).size=l.length:=by show l.toArray.size=_; simp
theorem strB_list (s:ByteArray):strB s.data.toList=s:=by cases s; rfl
theorem strB_append (a b:List UInt8):strB a++strB b=strB (a++b):=by
 apply ByteArray.ext
 rw[ByteArray.data_append]
 simp
theorem strB_toList (l:List UInt8):(strB l).toList=l:=by rw[ByteArray.toList_eq]
theorem strB_extract (l:List UInt8) (i j:Nat):(strB l).extract i j=strB ((l.drop i).take (j-i)):=by
 apply ByteArray.ext
 rw[ByteArray.data_extract]
 apply Array.toList_inj.1
 simp[List.take_drop]
theorem row_string {F:List Nat}{w0 w:World}{Γ:List A}{g:Option Nat}{n cap:Nat}{l:List UInt8}(hT:T F w0 w Γ) (hm:rowP 5 1 g n cap (bvals l)∈Γ):(convert 86 9 (.slice (ptr g) n cap)).run Tp w=.ok (.string (strB l)) w:=by
 have hs:=hT.says hm
 have hl:l.length=n:=by have:=rowP.len hs; rw[bvals_len]at this; omega
 cases g with
 |none=>
  have h1:cap=0:=hs.2.2.2
  have h2:n≤cap:=hs.2.1
  obtain rfl:n=0:=by omega
  subst h1
  have:l=[]:=List.eq_nil_of_length_eq_zero (by omega)
  subst this
  exact run_convert_bytes_nil w 86 5 (by kernel_rfl) (by kernel_rfl) 0 0 _ (by kernel_rfl)
 |some b=>
  have h1:=run_convert_bytes_back (P:=Tp) w 86 9 5 ⟨b,0,none⟩ cap l (by kernel_rfl) (by kernel_rfl) (by kernel_rfl) (fun j hj=>by
   rw[addr_add,Nat.zero_add]
   rw[rowP.cell hs (k:=j) (v:=.int .u8 (l[j]).toNat) (by rw[bvals_get,List.getElem?_eq_getElem hj]; rfl)])
  rw[hl]at h1
  exact h1
theorem blk_row {F:List Nat}{w0 w:World}{Γ:List A}{k:Nat}{e:TypeId}{c:Array Value}{xs:List Value}{n:Nat}(hT:T F w0 w (blk k c e::Γ)) (hc:c.toList=xs) (hn:c.size=n) (hm:n≤1000000000):T F w0 w (rowP e 1 (some k) n n xs::Γ):=
 hT.weak rfl fun g hg=>⟨by rw[←hc,Array.length_toList,hn,Nat.mul_one],Nat.le_refl _,by simp only[maxLen]; omega,c,hg,by rw[hn,Nat.mul_one],by rw[hc,Nat.mul_one,←hn,←Array.length_toList,hc,List.take_length]⟩
theorem bvals_zeros (n:Nat):List.replicate n (Value.int .u8 0)=bvals (List.replicate n 0):=by simp[bvals]
theorem bvals_drop (l:List UInt8) (n:Nat):(bvals l).drop n=bvals (l.drop n):=by simp[bvals]
theorem bvals_append (a b:List UInt8):bvals a++bvals b=bvals (a++b):=by simp[bvals]
theorem bvals_one (l:List UInt8):∀u∈bvals l,u.oneCell'=true:=by
 intro v hv
 simp only[bvals,List.mem_map]at hv
 obtain⟨b,_,rfl⟩:=hv
 rfl
theorem T.cell1 {F:List Nat}{w0 w:World}{Γ:List A}{e:TypeId}{g:Option Nat}{n cap i:Nat}{xs:List Value}{v:Value}(h:T F w0 w Γ) (hm:rowP e 1 g n cap xs∈Γ) (hv:xs[i]?=some v):
  ∃b,g=some b∧i<n∧w.cell? (Addr.add ⟨b,0,none⟩ (i*1))=some v:=by
 have hs:=h.says hm
 have hl:=rowP.len hs
 have hi:=(List.getElem?_eq_some_iff.1 hv).1
 obtain⟨b,rfl⟩:=rowP.pos hs (by omega)
 refine⟨b,rfl,by omega,?_⟩
 rw[addr_add,Nat.zero_add,Nat.mul_one]
 exact rowP.cell hs hv
theorem T.dropAt {F:List Nat}{w0 w:World}{Γ Δ:List A}{a:A}(h:T F w0 w Γ) (hk:Pick a Γ Δ):T F w0 w Δ:=(h.pick hk).drop
theorem T.row1 {F:List Nat}{w0 w:World}{Γ:List A}{e:TypeId}{g:Option Nat}{n cap i:Nat}{xs:List Value}{v:Value}(h:T F w0 w Γ) (hm:rowP e 1 g n cap xs∈Γ) (hv:xs[i]?=some v):
  ∃b,g=some b∧w.cell? (Addr.add ⟨b,0,none⟩ (i*1))=some v:=by
 have hs:=h.says hm
 have hl:=rowP.len hs
 have hi:=(List.getElem?_eq_some_iff.1 hv).1
 obtain⟨b,rfl⟩:=rowP.pos hs (by omega)
 refine⟨b,rfl,?_⟩
 rw[addr_add,Nat.zero_add,Nat.mul_one]
 exact rowP.cell hs hv
theorem StRow1.t {F:List Nat}{w0 w:World}{Γ Δ:List A}{e:TypeId}{n cap b k:Nat}{xs:List Value}{v:Value}{K:World→Prop}(hT:T F w0 w Γ) (hk:Pick (rowP e 1 (some b) n cap xs) Γ Δ) (hkl:k<xs.length) (hv:scalar v=true)
  (h:∀w',T F w0 w' (rowP e 1 (some b) n cap (xs.set k v)::Δ)→K w'):St (Addr.add ⟨b,0,none⟩ (k*1)) v w K:=by
 rw[addr_add,Nat.zero_add,Nat.mul_one]
 exact StRow.t hT hk hkl hv h
theorem push1_t {P:Program}{F:List Nat}{w0 w:World}{Γ Δ:List A}{t e:TypeId}{i:TypeInfo}{z v:Value}(ht:P.underlying t=some (.slice e)) (hi:P.info? e=some i) (hz:i.zero=some z) (hsize:i.size=1) (hzs:z.cells.size=1) (hby:decide (i.bytes≤1000000)=true)
  {g:Option Nat} {n cap:Nat} {xs:List Value} (hT:T F w0 w Γ) (hk:Pick (rowP e 1 g n cap xs) Γ Δ) (hv:v.oneCell'=true) (hn:n≤1000000) {K:Option Addr→Nat→Nat→World→Prop} (hK:∀g' cap' w',T F w0 w' (rowP e 1 g' (n+1) cap' (xs++[v])::Δ)→K (ptr g') (n+1) cap' w'):
  Alloc #[v] e w fun k w1=>∃(p:Option Addr) (l c:Nat),∃w2,(builtin .append #[t,t] t #[false,false] #[.slice (ptr g) n cap,.slice (some ⟨k,0,none⟩) 1 1]).run P w1=.ok (.value (.slice p l c)) w2∧K p l c w2:=by
 refine Alloc.t hT fun k w1 hT1=>?_
 have hby':i.bytes≤1000000:=of_decide_eq_true hby
 have hmul:(n+1)*i.bytes≤1000001*1000000:=Nat.mul_le_mul (by omega) hby'
 obtain⟨g',cap',w',hr,hT'⟩:=append_t (ty:=t) #[false,false] ht hi hz hsize hzs hT1 (.tail hk) (a:=⟨k,0,none⟩) (m:=1) (c:=1) (news:=[v]) rfl (fun j u hu=>by
   rw[addr_add,Nat.zero_add]
   exact hT1.ld (by repeat constructor) (by simpa using hu)) (fun u hu=>by obtain rfl:=List.mem_singleton.1 hu; exact hv) (by simp only[maxLen]; omega) (by omega)
 exact⟨_,_,_,w',hr,hK g' cap' w' (T.drop (hT'.swap (.swap _ _ _)))⟩
abbrev noB:ByteArray:=ByteArray.mk #[]
theorem cell_ext {w w':World}(h:Ext w w'){a:Addr}{v:Value}(hc:w.cell? a=some v):w'.cell? a=some v:=by
 have hb:a.block<w.heap.size:=by
  unfold World.cell? at hc
  cases hh:w.heap[a.block]? with
  |none=>rw[hh]at hc; split at hc<;>simp_all
  |some o=>exact lt_of_heap hh
 unfold World.cell? at hc⊢
 rw[h.heap _ hb]
 exact hc
def strsAt (w:World) (p:Option Addr) (l:List ByteArray):Prop:=(l≠[]→∃a,p=some a)∧∀a,p=some a→∀j s,l[j]?=some s→w.cell? (a.add j)=some (.string s)
theorem strsAt.ext {w w':World}{p:Option Addr}{l:List ByteArray}(h:strsAt w p l) (hx:Ext w w'):strsAt w' p l:=⟨h.1,fun a ha j s hs=>cell_ext hx (h.2 a ha j s hs)⟩
theorem nott {b:Bool}(h:(!b)=true):b=false:=by cases b; rfl; cases h
theorem notf {b:Bool}(h:(!b)=false):b=true:=by cases b; cases h; rfl
theorem T.dropAll {F:List Nat}{w0 w:World}{G Γ:List A}(h:T F w0 w (G++Γ)):T F w0 w Γ:=by
 induction G with
 |nil=>exact h
 |cons a G ih=>exact ih (T.drop h)
end Go.Proofs.YtkknkmplmilihaaGreat
end
section
namespace Go.Proofs.YtkknkmplmilihaaGreat
open Go.Sh
def zeroSec:ByteArray:=⟨Array.replicate 64 0⟩
theorem zeroSec_size:zeroSec.size=64:=rfl
theorem vals_zero:vals zeroSec=List.replicate 64 (.int .u8 0):=rfl
theorem flat_zero (n:Nat):flat (List.replicate n zeroSec)=List.replicate (n*64) (.int .u8 0):=by
 induction n with
 |zero=>rfl
 |succ n ih=>
  have e:flat (List.replicate (n+1) zeroSec)=vals zeroSec++flat (List.replicate n zeroSec):=rfl
  rw[e,ih,vals_zero,List.replicate_append_replicate]
  congr 1; omega
theorem made_zero (m:Nat):madeCells (Array.replicate 64 (Value.int .u8 0)) m=Array.replicate m (.int .u8 0):=by
 apply Array.ext
 ·simp[madeCells]
 ·intro j h1 h2
  have:j%64<64:=Nat.mod_lt _ (by decide)
  simp[madeCells,this]
theorem perm3 {α:Type}(a b c:α) (l:List α):(a::b::c::l).Perm (c::b::a::l):=(List.Perm.swap b a _).trans (((List.Perm.swap c a _).cons b).trans (List.Perm.swap c b _))
structure NewD (n:Int) (D:DL):Prop where
 safe:D.safe=List.replicate n.toNat zeroSec
 ws:D.ws=[]
 sp:D.sp=[]
 rest:D.dead=false∧D.left=0∧D.cut=false
theorem new_spec (n:Int){F:List Nat}{w0 w:World}{X:List A}(hT:T F w0 w X) (hn:1≤n∧n≤4096):
  Calls Tp 38 #[.int .i64 n] w fun e w'=>∃v,e=.returned v∧∃D,v=.pointer (some ⟨D.p,0,none⟩)∧NewD n D∧T F w0 w' (X++drvL D):=by
 refine drive_New_calls ?_
 unfold drive_New
 refine⟨dec_t fun h=>absurd h (by omega),dec_f fun _=>⟨dec_t fun h=>absurd h (by omega),dec_f fun _=>?_⟩⟩
 have hm:=run_make (P:=Tp) w 148 208 Tryz.t208 (.agg (Array.replicate 64 (.int .u8 0))) (by kernel_rfl) (by kernel_rfl) (by kernel_rfl) .i64 .i64 n n (by omega) (by omega) (by
  have hb:Tryz.t208.bytes=64:=by kernel_rfl
  rw[hb]; omega) (by omega)
 have hsz:Tryz.t208.size=64:=by kernel_rfl
 have hc:(Value.agg (Array.replicate 64 (Value.int .u8 0))).cells=Array.replicate 64 (Value.int .u8 0):=rfl
 rw[hsz,hc,made_zero]at hm
 have hT1:=hT.alloc (.cells (Array.replicate (n.toNat*64) (Value.int .u8 0)) 208)
 have hT2:=T.fresh (size:=64) (n:=n.toNat) hT1 (by simp) (by simp only[maxLen]; omega)
 refine⟨_,_,_,_,hm,AllocM.t hT2 fun k11 w2 h2=>AllocM.t h2 fun k12 w3 h3=>Alloc.t h3 fun k14 w4 h4=>⟨⟨k14,w.heap.size,k11,k12,List.replicate n.toNat zeroSec,[],0,[],0,false,0,false⟩,rfl,⟨rfl,rfl,rfl,rfl,rfl,rfl⟩,?_⟩⟩
 have e:drvL ⟨k14,w.heap.size,k11,k12,List.replicate n.toNat zeroSec,[],0,[],0,false,0,false⟩=[blk k14 #[.slice (some ⟨w.heap.size,0,none⟩) n.toNat n.toNat,.map (some k11),.map (some k12),.bool false,.int .i64 0,.bool false] 151,
  rowP 208 64 (some w.heap.size) n.toNat n.toNat (Array.replicate (n.toNat*64) (Value.int .u8 0)).toList,mapP k11 [] 0,mapP k12 [] 0]:=by
  simp only[drvL,List.length_replicate,flat_zero,Array.toList_replicate,List.map_nil,List.append_nil]
 rw[e]
 refine h4.swap (List.Perm.trans ?_ List.perm_append_comm)
 exact(perm3 _ _ _ _).cons _
def pendW (ws:List WE) (i:Int):List ByteArray:=match ws.find? (fun e=>e.k==i) with
 |some e=>e.l
 |none=>[]
theorem pend_cons (x:WE) (ws:List WE) (i:Int):pendW (x::ws) i=if x.k=i then x.l else pendW ws i:=by
 unfold pendW
 rw[List.find?_cons]
 by_cases h:x.k=i
 ·simp[h]
 ·have:(x.k==i)=false:=by simpa using h
  simp[this,h]
theorem wr_pend {i:Int}{s:ByteArray}{clk:Nat}{ws ws':List WE}(h:Wr i s clk ws ws') (j:Int):pendW ws' j=if j=i then pendW ws i++[s] else pendW ws j:=by
 cases h with
 |new g cap h=>
  induction ws with
  |nil=>
   rw[List.nil_append,pend_cons]
   by_cases hj:j=i
   ·subst hj; simp[pendW]
   ·rw[if_neg (fun e=>hj e.symm),if_neg hj]
  |cons x ws ih=>
   rw[List.find?_cons]at h
   split at h
   ·cases h
   ·rename_i hx
    have hx:¬x.k=i:=by simpa using hx
    rw[List.cons_append,pend_cons,pend_cons,pend_cons,ih h,if_neg hx]
    by_cases hj:j=i
    ·subst hj; simp[hx]
    ·simp[hj]
 |@old a b e g cap he ha=>
  induction a with
  |nil=>
   rw[List.nil_append,List.nil_append,pend_cons,pend_cons,pend_cons,if_pos he]
   by_cases hj:j=i
   ·subst hj; simp
   ·rw[if_neg (fun e=>hj e.symm),if_neg hj,if_neg (fun h=>hj (h.symm.trans he))]
  |cons x a ih=>
   have hx:¬x.k=i:=ha x List.mem_cons_self
   rw[List.cons_append,List.cons_append,pend_cons,pend_cons,pend_cons,ih fun y hy=>ha y (List.mem_cons_of_mem _ hy),if_neg hx]
   by_cases hj:j=i
   ·subst hj; simp[hx]
   ·simp[hj]
def zerosB (n:Nat):ByteArray:=⟨Array.replicate n 0⟩
theorem zerosB_app (n:Nat):zerosB n++ByteArray.mk #[0]=zerosB (n+1):=by
 apply ByteArray.ext
 simp[zerosB,ByteArray.data_append,Array.replicate_succ]
def BlankI (w:World) (vs:List Value) (w':World):Prop:=∃n:Nat,vs=[.string (zerosB n),.int .i64 n]∧n≤64∧Ext w w'
def BlankM (vs:List Value) (_:World):Nat:=match vs with|[_,.int _ i]=>(64-i).toNat|_=>0
theorem blank_spec (w:World):Ret Tp 43 #[] w (.string zeroSec):=by
 refine ret_of (revetmentref04_Blank_calls ?_)
 unfold revetmentref04_Blank
 refine⟨BlankI w,BlankM,⟨0,rfl,by omega,.refl w⟩,?_⟩
 rintro vs w' ⟨n,rfl,hn,hx⟩
 refine⟨_,_,rfl,dec_t fun h=>⟨?_,?_⟩,dec_f fun h=>?_⟩
 ·show(((zerosB n).size+1:Nat):Int)≤_
  have:(zerosB n).size=n:=by show(Array.replicate n (0:UInt8)).size=n; simp
  omega
 ·rw[zerosB_app,wrap64 _ (by omega) (by omega)]
  exact⟨⟨n+1,rfl,by omega,hx⟩,by simp only[BlankM]; omega⟩
 ·have:n=64:=by omega
  subst this
  exact⟨rfl,hx⟩
end Go.Proofs.YtkknkmplmilihaaGreat
end
