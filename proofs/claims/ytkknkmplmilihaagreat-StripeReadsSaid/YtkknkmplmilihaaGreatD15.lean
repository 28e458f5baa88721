import Derived.Lib.AppendStr
import Derived.Lib.Builder
import Derived.Tactics
import Derived.Tactics2
import Derived.Laws.Pointers
import Derived.RegionTactic
import Derived.RegionCalls
import Derived.ChangeAlike
import Derived.Laws.StructEq
import Derived.ChangeKeysEq
import Derived.ChangeSame
import Derived.Test.YtkknkmplmilihaaGreatProg
import Derived.ReadAgain
import Derived.ChangeMaps5
import Derived.SliceStrings
import Derived.ChangeSlices
import Derived.WalkKit
import Derived.ProofKit
import Derived.OpenShut
import Derived.Lib.SmallJoins
import Derived.Laws.BytesArg
import Derived.Test.YtkknkmplmilihaaGreatD2
import Derived.Test.YtkknkmplmilihaaGreatD4
import Derived.Test.YtkknkmplmilihaaGreatD6
import Derived.Test.YtkknkmplmilihaaGreatD7
import Derived.Test.YtkknkmplmilihaaGreatD9
import Derived.Test.YtkknkmplmilihaaGreatD10
import Derived.Test.YtkknkmplmilihaaGreatD11
import Derived.Test.YtkknkmplmilihaaGreatD13
import Derived.Test.YtkknkmplmilihaaGreatD14
set_option linter.unusedSimpArgs false
set_option linter.unusedVariables false
set_option maxHeartbeats 2000000
set_option maxRecDepth 20000
section
namespace Go.Sh
open Go.RowKit Go.Lib
theorem append_s {P:Program}{F:List Nat}{w0 w:World}{Γ Δ:List A}{t u ty e:TypeId}{i:TypeInfo}{z:Value}(cs:Array Bool) (ht:P.underlying t=some (.slice e)) (hu:P.underlying u=some .string) (hi:P.info? e=some i) (hz:i.zero=some z) (hsize:i.size=1) (hzs:z.cells.size=1) (hby:i.bytes=1)
  {g:Option Nat} {n cap:Nat} {xs:List Value} (hT:T F w0 w Γ) (hk:Pick (rowP e 1 g n cap xs) Γ Δ) (s:ByteArray) (hle:n+s.size≤1000000000):
  ∃g' cap' w',(builtin .append #[t,u] ty cs #[.slice (ptr g) n cap,.string s]).run P w=.ok (.value (.slice (ptr g') (n+s.size) cap')) w'∧T F w0 w' (rowP e 1 g' (n+s.size) cap' (xs++strCells s)::Δ):=by
 have hT1:=hT.pick hk
 obtain⟨k1,k2,k3,k4⟩:=hT1.says List.mem_cons_self
 have hm:n+s.size≤maxLen:=by simp only[maxLen]; omega
 have hlen:(xs++strCells s).length=(n+s.size)*1:=by rw[List.length_append,k1,strCells_length,Nat.mul_one,Nat.mul_one]
 have toB:∀{v:Value} {w':World},(Builtin.append_ #[t,u] ty #[.slice (ptr g) n cap,.string s]).run P w=.ok v w'→(builtin .append #[t,u] ty cs #[.slice (ptr g) n cap,.string s]).run P w=.ok (.value v) w':=by
  intro v w' h
  simp[builtin,h,Result.andThen]
 have grown:∀(old:Nat),old<n+s.size→
   T F w0 (w.drew.alloc (.cells (xs.toArray++(strCells s).toArray++Builtin.zeroCells z.cells (grownCap w (n+s.size) old e-(n+s.size))) e)) (rowP e 1 (some w.heap.size) (n+s.size) (grownCap w (n+s.size) old e) (xs++strCells s)::Δ):=by
  intro old ho
  have hge:=grownCap_ge w (n+s.size) old e
  have hcm:grownCap w (n+s.size) old e≤maxLen:=grownCap_le_maxLen w (n+s.size) old e hm
  have h2:T F w0 w Δ:=hT1.drop
  have h3:=h2.drew.alloc (.cells (xs.toArray++(strCells s).toArray++Builtin.zeroCells z.cells (grownCap w (n+s.size) old e-(n+s.size))) e)
  refine h3.weak rfl fun q hq=>⟨hlen,hge,hcm,_,hq,?_,?_⟩
  ·simp only[Array.size_append,List.size_toArray,size_zeroCells,hzs,k1,strCells_length]
   omega
  ·simp only[Array.toList_append,List.append_assoc]
   rw[←List.append_assoc,←hlen]
   exact List.take_left
 cases g with
 |none=>
  obtain rfl:cap=0:=k4
  obtain rfl:n=0:=by omega
  have hx:xs=[]:=List.eq_nil_of_length_eq_zero (by simpa using k1)
  subst hx
  by_cases h0:s.size=0
  ·refine⟨none,0,w,toB ?_,?_⟩
   ·simp[Builtin.append_,run_underlying ht,run_underlying hu,sizeOf,typeInfo,hi,Builtin.lenOf,h0,Builtin.firstCells]
   ·rw[h0]
    have:strCells s=[]:=List.eq_nil_of_length_eq_zero (by rw[strCells_length,h0])
    rw[this]; exact hT1
  ·have hr:=run_append_nil_string (P:=P) w t u ty e i z ht hu hi hz s (by omega) (by omega) (by rw[hby]; omega)
   have hgr:=grown 0 (by omega)
   simp only[Nat.zero_add,List.nil_append,Array.empty_append]at hgr⊢
   have e1:(strCells s).toArray=s.data.map (fun b=>Value.int .u8 b.toNat):=by
    apply Array.ext'
    simp[strCells]
   rw[e1]at hgr
   exact⟨some w.heap.size,_,_,toB hr,hgr⟩
 |some g=>
  obtain⟨cur,hg,hcs,htake⟩:=k4
  by_cases hroom:n+s.size≤cap
  ·have hr:=run_append_room_string (P:=P) w t u ty e i ht hu hi hsize g n cap cur hg s hroom (by omega)
   have hgl:g<w.heap.size:=lt_of_heap hg
   refine⟨some g,cap,_,toB hr,hT1.turn rfl rfl (by simp) (fun q hq hne=>setRow_other w g q _ fun e=>hne (by simp[rowP,e])) (by simp[rowP]) (fun q hq=>?_) ⟨hlen,hroom,k3,_,setRow_heap w g cur _ e _ hg,?_,?_⟩⟩
   ·obtain rfl:q=g:=by simpa[rowP] using hq
    exact⟨by simpa using hgl,.inl (by simp[rowP])⟩
   ·simp only[List.size_toArray,List.length_append,List.length_take,List.length_drop,Array.length_toList,strCells_length]
    omega
   ·rw[Nat.mul_one]at htake
    rw[htake,←hlen]
    exact List.take_left
  ·have holds:∀j v,xs[j]?=some v→w.cell? ((⟨g,0,none⟩:Addr).add j)=some v:=fun j v hv=>by
    rw[addr_add,Nat.zero_add]
    exact rowP.cell (hT1.says List.mem_cons_self) hv
   have hr:=run_append_grow_string (P:=P) w t u ty e i z ht hu hi hz ⟨g,0,none⟩ n cap xs (by rw[hsize]; exact k1) holds s (by omega) (by omega) (growslice_fits (by omega) (by rw[hby]; omega))
   exact⟨some w.heap.size,_,_,toB hr,grown cap (by omega)⟩
end Go.Sh
end
section
namespace Go.Proofs.YtkknkmplmilihaaGreat
open Go.Sh Go.RowKit
def bldL (b:Nat) (used:Bool) (g:Option Nat) (cap:Nat) (l:List UInt8):List A:=[blk b #[.pointer (if used then some ⟨b,0,none⟩ else none),.slice (ptr g) l.length cap] 236,rowP 5 1 g l.length cap (bvals l)]
theorem bld_info:∃j,Tryz.prog.info? 236=some j∧j.size≠0:=by
 have h:(Tryz.prog.info? 236).map (·.size)=some 2:=by kernel_rfl
 obtain⟨j,h1,h2⟩:=Option.map_eq_some_iff.1 h
 exact⟨j,h1,by rw[h2]; decide⟩
theorem copy_used (b:Nat) (w:World) (h0:w.cell? ⟨b,0,none⟩=some (.pointer (some ⟨b,0,none⟩))):
  Calls Tryz.prog 210 #[.pointer (some ⟨b,0,none⟩)] w fun e w'=>e=.returned (.tuple #[])∧w'=w:=by
 obtain⟨j,hj,_⟩:=bld_info
 go_enter Tryz.func210,Tryz.ntmps210
 go_wp2
 rw[Go.Lib.run_neq_ptr_same w _ Tryz.underlying234 hj]
 go_wp2
 go_end0
 exact⟨rfl,rfl⟩
theorem copy_fresh (b:Nat) (w:World) (h0:w.cell? ⟨b,0,none⟩=some (.pointer none)) (hsh:w.shape? b=some (236,2)) (hfz:w.frozen? ⟨b,0,none⟩=false):
  Calls Tryz.prog 210 #[.pointer (some ⟨b,0,none⟩)] w fun e w'=>e=.returned (.tuple #[])∧w'=w.setCell ⟨b,0,none⟩ (.pointer (some ⟨b,0,none⟩)):=by
 obtain⟨j,hj,hjs⟩:=bld_info
 go_enter Tryz.func210,Tryz.ntmps210
 go_wp2
 rw[Go.Lib.run_to_unsafe w ⟨b,0,none⟩ Tryz.underlying234 Tryz.underlying314 hj hjs hsh (Nat.zero_lt_succ 1)]
 simp only[Result.andThen]
 rw[Oper.upon_value]
 go_wp2
 rw[run_callFunc_extern Tryz.func246 (by kernel_rfl) (by kernel_rfl) (by kernel_rfl) (e:=Extern.AbiNoEscape.same) (by kernel_rfl)]
 rw[Go.Lib.run_noEscape]
 simp only[Result.andThen]
 rw[Oper.upon_value]
 go_wp2
 rw[Go.Lib.run_from_unsafe w ⟨b,0,none⟩ Tryz.underlying314 Tryz.underlying234 hj hsh (by kernel_rfl)]
 simp only[Result.andThen]
 rw[Oper.upon_value]
 go_wp2
 go_end0
 exact⟨rfl,rfl⟩
section
variable {F:List Nat}{w0 w:World}{Γ:List A}{b:Nat}{used:Bool}{g:Option Nat}{cap:Nat}{l:List UInt8}
theorem copyCheck_spec (hT:T F w0 w (bldL b used g cap l++Γ)):Calls Tryz.prog 210 #[.pointer (some ⟨b,0,none⟩)] w fun e w'=>e=.returned (.tuple #[])∧T F w0 w' (bldL b true g cap l++Γ):=by
 have hT:T F w0 w (blk b #[.pointer (if used then some ⟨b,0,none⟩ else none),.slice (ptr g) l.length cap] 236::rowP 5 1 g l.length cap (bvals l)::Γ):=hT
 have h0:=hT.ld (b:=b) (i:=0) (by repeat constructor) rfl
 have hb:=hT.got (b:=b) List.mem_cons_self
 cases used with
 |true=>
  exact(copy_used b w h0).mono fun e w' ⟨he,hw⟩=>⟨he,by rw[hw]; exact hT⟩
 |false=>
  refine(copy_fresh b w h0 (by simp[World.shape?,hb]) (by simp[World.frozen?,hb])).mono fun e w' ⟨he,hw⟩=>⟨he,?_⟩
  try dsimp only
  rw[hw]
  refine hT.change .head rfl rfl ?_ (setBlock_same hb) fun d hd=>setBlock_other hd
  show(w.heap.modify b _).size=_
  rw[Array.size_modify]
theorem writeString_spec (hT:T F w0 w (bldL b used g cap l++Γ)) (s:List UInt8) (hl:l.length+s.length≤1000000):Calls Tryz.prog 162 #[.pointer (some ⟨b,0,none⟩),.string (strB s)] w fun e w'=>e=.returned (.tuple #[.int .i64 (s.length:Int),.nilIface])∧∃g' cap',T F w0 w' (bldL b true g' cap' (l++s)++Γ):=by
 refine rq (strings_Builder_WriteString_calls ?_)
 unfold strings_Builder_WriteString
 refine(copyCheck_spec hT).mono fun e w1 ⟨he,h1⟩=>⟨he,⟨b,0,none⟩,rfl,?_⟩
 have h1:T F w0 w1 (blk b #[.pointer (some ⟨b,0,none⟩),.slice (ptr g) l.length cap] 236::rowP 5 1 g l.length cap (bvals l)::Γ):=h1
 try dsimp only
 rw[addr_add]
 refine⟨_,_,_,h1.ld (b:=b) (i:=0+1) (by repeat constructor) rfl,?_⟩
 obtain⟨g',cap',w2,hr,h2⟩:=append_s (P:=Tryz.prog) (t:=86) (u:=9) (ty:=86) (e:=5) (i:=Tryz.t5) (z:=.int .u8 0) #[false,false] (by kernel_rfl) (by kernel_rfl) (by kernel_rfl) (by kernel_rfl) (by kernel_rfl) (by rfl) (by kernel_rfl) h1 (.tail .head) (strB s) (by rw[strB_size]; omega)
 rw[strB_size]at hr h2
 have e2:bvals l++Go.Lib.strCells (strB s)=bvals (l++s):=by simp[bvals,Go.Lib.strCells,strB]
 rw[e2]at h2
 refine⟨_,_,_,w2,hr,⟨b,0,none⟩,rfl,?_⟩
 rw[addr_add]
 refine St.t (c:=#[.pointer (some ⟨b,0,none⟩),.slice (ptr g) l.length cap]) (c':=#[.pointer (some ⟨b,0,none⟩),.slice (ptr g') (l.length+s.length) cap']) h2 (.tail .head) (show 0+1<2 by decide) rfl rfl fun w3 h3=>⟨by rw[strB_size],g',cap',?_⟩
 unfold bldL
 rw[List.length_append]
 exact h3.swap (.swap _ _ _)
theorem writeByte_spec (hT:T F w0 w (bldL b used g cap l++Γ)) (x:UInt8) (hl:l.length≤1000000):Calls Tryz.prog 217 #[.pointer (some ⟨b,0,none⟩),.int .u8 (x.toNat:Int)] w fun e w'=>e=.returned .nilIface∧∃g' cap',T F w0 w' (bldL b true g' cap' (l++[x])++Γ):=by
 refine rq (strings_Builder_WriteByte_calls ?_)
 unfold strings_Builder_WriteByte
 refine(copyCheck_spec hT).mono fun e w1 ⟨he,h1⟩=>⟨he,⟨b,0,none⟩,rfl,?_⟩
 have h1:T F w0 w1 (blk b #[.pointer (some ⟨b,0,none⟩),.slice (ptr g) l.length cap] 236::rowP 5 1 g l.length cap (bvals l)::Γ):=h1
 try dsimp only
 rw[addr_add]
 refine⟨_,_,_,h1.ld (b:=b) (i:=0+1) (by repeat constructor) rfl,?_⟩
 refine push1_t (i:=Tryz.t5) (z:=.int .u8 0) (v:=.int .u8 (x.toNat:Int)) (by kernel_rfl) (by kernel_rfl) (by kernel_rfl) (by kernel_rfl) (by kernel_rfl) (by kernel_rfl) h1 (.tail .head) rfl hl fun g' cap' w2 h2=>⟨⟨b,0,none⟩,rfl,?_⟩
 have e2:bvals l++[.int .u8 (x.toNat:Int)]=bvals (l++[x]):=by simp[bvals]
 rw[e2]at h2
 rw[addr_add]
 refine St.t (c:=#[.pointer (some ⟨b,0,none⟩),.slice (ptr g) l.length cap]) (c':=#[.pointer (some ⟨b,0,none⟩),.slice (ptr g') (l.length+1) cap']) h2 (.tail .head) (show 0+1<2 by decide) rfl rfl fun w3 h3=>⟨rfl,g',cap',?_⟩
 unfold bldL
 rw[List.length_append]
 exact h3.swap (.swap _ _ _)
theorem bstring_spec {w0 w:World}(hT:T [] w0 w (bldL b used g cap l++Γ)):Calls Tryz.prog 164 #[.pointer (some ⟨b,0,none⟩)] w fun e w'=>e=.returned (.string (strB l))∧Ext w0 w':=by
 have hT:T [] w0 w (blk b #[.pointer (if used then some ⟨b,0,none⟩ else none),.slice (ptr g) l.length cap] 236::rowP 5 1 g l.length cap (bvals l)::Γ):=hT
 have hb:=hT.got (b:=b) List.mem_cons_self
 have hob:=(hT.own b (by simp[feet,ob])).2
 obtain⟨k1,k2,k3,k4⟩:=hT.says (x:=rowP 5 1 g l.length cap (bvals l)) (by repeat constructor)
 have hB:w0.heap.size≤b:=by
  rcases hob with h|h
  ·cases h
  ·exact h
 have own:w.ownsRow w0.heap.size 5 1 (.slice (ptr g) l.length cap) (bvals l).length (bvals l):=by
  rw[bvals_len]
  refine⟨by rw[bvals_len,Nat.mul_one],?_⟩
  cases g with
  |none=>
   have h1:cap=0:=k4
   left
   have h2:l.length=0:=by omega
   rw[h1,h2]; exact⟨rfl,rfl⟩
  |some g=>
   obtain⟨cur,h1,h2,h3⟩:=k4
   have hog:=(hT.own g (by simp[feet,ob,rowP])).2
   refine .inr ⟨g,cap,cur,rfl,?_,h1,k2,k3,h2,h3⟩
   rcases hog with h|h
   ·cases h
   ·exact h
 have hne:(Value.slice (ptr g) l.length cap).ownBlock≠some b:=by
  cases g with
  |none=>intro h; cases h
  |some g=>
   intro h
   have hgb:g=b:=by simpa[Value.ownBlock] using h
   have hn:=hT.nodup
   rw[hgb]at hn
   simp[feet,ob,rowP]at hn
 have at_:Go.Lib.IsBuilder 236 5 w0.heap.size b (Go.Lib.byteCells l) w:=by
  cases used with
  |true=>exact .inr ⟨hB,_,hb,own,hne⟩
  |false=>exact .inl ⟨hB,_,hb,own,hne⟩
 exact(Tryz.Builder_String_any w0.heap.size b l w at_ hT.chg.size).mono fun e w' ⟨he,hx⟩=>⟨he,⟨hx.os.trans hT.chg.os,hx.output.trans hT.chg.output,Nat.le_trans hT.chg.size hx.size,fun k hk=>(hx.block k hk).trans (hT.chg.heap k hk (by simp))⟩⟩
end
theorem below_e {w w':World}(h:Below w.heap.size w w'):Ext w w':=⟨h.os,h.output,h.size,h.block⟩
theorem repeat0_spec (n:Nat) (hn:n≤1000000) (w:World):Ret Tryz.prog 93 #[.string (ByteArray.mk #[0]),.int .i64 (n:Int)] w (.string (strB (List.replicate n 0))):=by
 have h1:(ByteArray.mk #[0]).size=1:=rfl
 refine(Tryz.strings_Repeat (ByteArray.mk #[0]) n w (by omega) (by rw[h1]; omega)).mono fun e w' ⟨he,hx⟩=>⟨?_,below_e hx⟩
 rw[he]
 have key:∀n,Go.Lib.repeatL [0] n=List.replicate n (0:UInt8):=by
  intro n
  induction n with
  |zero=>rfl
  |succ n ih=>rw[List.replicate_succ,←ih]; rfl
 show Ending.returned (.string ⟨(Go.Lib.repeatL [0] n).toArray⟩)=_
 rw[key]
theorem join_nil:∀(L:List (List UInt8)),Go.Lib.join L []=L.flatten:=fun L=>by
 unfold Go.Lib.join
 have key:∀L:List (List UInt8),(List.intersperse [] L).flatten=L.flatten:=by
  intro L
  induction L with
  |nil=>rfl
  |cons x L ih=>
   cases L with
   |nil=>rfl
   |cons y L=>
    show x++([]++(List.intersperse [] (y::L)).flatten)=x++(y::L).flatten
    rw[ih]; rfl
 exact key L
theorem join_spec {F:List Nat}{w0 w:World}{Γ:List A}{g:Option Nat}{n cap:Nat}{L:List (List UInt8)}(hT:T F w0 w Γ) (hm:rowP 9 1 g n cap (L.map fun x=>.string (strB x))∈Γ) (hl:L.length≤1000000) (hs:L.flatten.length≤1000000):
  Ret Tryz.prog 177 #[.slice (ptr g) n cap,.string (ByteArray.mk #[])] w (.string (strB L.flatten)):=by
 have hh:=hT.says hm
 have hn:L.length=n:=by have:=rowP.len hh; rw[List.length_map]at this; omega
 subst hn
 cases g with
 |none=>
  have h1:cap=0:=hh.2.2.2
  have h2:L.length≤cap:=hh.2.1
  have h3:L=[]:=List.eq_nil_of_length_eq_zero (by omega)
  subst h3
  exact(Tryz.strings_Join_none none cap (ByteArray.mk #[]) w).mono fun e w' ⟨he,hw⟩=>⟨he,by rw[hw]; exact Ext.refl w⟩
 |some b=>
  obtain⟨_,hc,_,cur,hg,hcs,htk⟩:=id hh
  have ex:(L.map strB).map (fun x=>x.data.toList)=L:=by
   rw[List.map_map]
   have:((fun x:ByteArray=>x.data.toList)∘strB)=id:=by funext s; rfl
   rw[this,List.map_id]
  have e0:(ByteArray.mk #[]).data.toList=[]:=rfl
  have:=Tryz.strings_Join b 0 cap (L.map strB) (ByteArray.mk #[]) w (fun j x hj=>by
   rw[Nat.zero_add]
   refine rowP.cell hh ?_
   rw[List.getElem?_map]at hj⊢
   cases hx:L[j]? with
   |none=>rw[hx]at hj; cases hj
   |some y=>rw[hx]at hj; cases hj; rfl) (lt_of_heap hg) (by rw[List.length_map]; omega) (by rw[List.length_map]; exact hc) (by rw[ex,e0,join_nil]; omega)
  rw[List.length_map,ex,e0,join_nil]at this
  exact this.mono fun e w' ⟨he,hx⟩=>⟨he,below_e hx⟩
abbrev Pr2:=Int×Int
def prV (x:Pr2):Value:=.agg #[.int .i64 x.1,.int .i64 x.2]
def prE (ks:List Pr2):List MapEntry:=ks.zipIdx.map fun x=>⟨prV x.1,.bool true,x.2⟩
abbrev mapPr (b:Nat) (ks:List Pr2):A:=ob b (.map (prE ks).toArray ks.length)
theorem prE_snoc (ks:List Pr2) (x:Pr2):prE (ks++[x])=prE ks++[⟨prV x,.bool true,ks.length⟩]:=by
 simp[prE,List.zipIdx_append]
theorem pr_part0 (x:Pr2) (w:World):(part 3 #[.int .i64 x.1,.int .i64 x.2] 0).run Tp w=.ok (.int .i64 x.1) w:=by kernel_rfl
theorem pr_part1 (x:Pr2) (w:World):(part 3 #[.int .i64 x.1,.int .i64 x.2] 1).run Tp w=.ok (.int .i64 x.2) w:=by kernel_rfl
theorem pr_eq (d:Nat) (x y:Pr2) (w:World):(Op.equalIn (d+2) 184 (prV x) (prV y)).run Tp w=.ok (decide (x=y)) w:=by
 have hc:Tp.cellsOf 3=1:=by kernel_rfl
 have ei:∀a b:Int,(Op.equalIn (d+1) 3 (.int .i64 a) (.int .i64 b)).run Tp w=.ok (a==b) w:=fun a b=>run_equalIn_int w d 3 .i64 .i64 a b (by kernel_rfl)
 unfold prV
 rw[run_equalIn_array (P:=Tp) (w:=w) (d+1) (t:=184) (e:=3) (n:=2) (i:=Tryz.t3) _ _ (by kernel_rfl) (by kernel_rfl),hc,show List.range 2=[0,1] from rfl]
 simp only[Op.eqItems,Nat.zero_mul,Nat.one_mul,Sem.run_bind,pr_part0,pr_part1,Result.andThen_ok,ei]
 by_cases h1:x.1=y.1
 ·have b1:(x.1==y.1)=true:=by simpa using h1
  simp only[b1,Bool.not_true,Bool.false_eq_true,if_false,Sem.run_bind,pr_part1,Result.andThen_ok,ei]
  by_cases h2:x.2=y.2
  ·have b2:(x.2==y.2)=true:=by simpa using h2
   rw[decide_eq_true (Prod.ext h1 h2)]
   simp[b2]
  ·have b2:(x.2==y.2)=false:=by simpa using h2
   rw[decide_eq_false fun e=>h2 (by rw[e])]
   simp[b2]
 ·have b1:(x.1==y.1)=false:=by simpa using h1
  rw[decide_eq_false fun e=>h1 (by rw[e])]
  simp[b1]
theorem pr_check (d:Nat) (b:Bool) (x:Pr2) (w:World):(Instr.checkKey b (d+2) 184 (prV x)).run Tp w=.ok () w:=by kernel_rfl
def findPr (k:Pr2):List Pr2→Nat→Option (Nat×Value)
 |[],_=>none
 |x::l,i=>if k=x then some (i,.bool true) else findPr k l (i+1)
theorem findPr_mem (k:Pr2):∀(l:List Pr2) (i:Nat),(k∈l→∃j,findPr k l i=some (j,.bool true))∧(k∉l→findPr k l i=none)
 |[],i=>⟨fun h=>(by cases h),fun _=>rfl⟩
 |x::l,i=>by
  obtain⟨h1,h2⟩:=findPr_mem k l (i+1)
  unfold findPr
  by_cases e:k=x
  ·rw[if_pos e]
   exact⟨fun _=>⟨i,rfl⟩,fun h=>absurd (by rw[e]; exact List.mem_cons_self) h⟩
  ·rw[if_neg e]
   exact⟨fun h=>h1 ((List.mem_cons.1 h).resolve_left e),fun h=>h2 fun h'=>h (List.mem_cons_of_mem _ h')⟩
theorem asking (d:Nat) (k:Pr2) (w:World):∀(l:List Pr2) (n i:Nat),(Instr.findAsking 184 (prV k) ((l.zipIdx n).map fun x=>(⟨prV x.1,.bool true,x.2⟩:MapEntry)) i).run Tp w=.ok (findPr k l i) w
 |[],n,i=>by simp[Instr.findAsking,findPr]
 |x::l,n,i=>by
  have he:(Op.equal 184 (prV k) (prV x)).run Tp w=.ok (decide (k=x)) w:=pr_eq 9998 k x w
  have ih:=asking d k w l (n+1) (i+1)
  simp only[List.zipIdx_cons,List.map_cons,Instr.findAsking,Sem.run_bind,he,Result.andThen_ok]
  by_cases h:k=x
  ·simp[h,findPr]
  ·simp only[decide_eq_false h,Bool.false_eq_true,if_false,ih,findPr,if_neg h]
theorem findKey_pr (k:Pr2) (l:List Pr2) (w:World):(Instr.findKey 184 (prV k) (prE l)).run Tp w=.ok (findPr k l 0) w:=by
 have hu:Tp.underlying 184=some (.array 2 3):=by kernel_rfl
 unfold Instr.findKey
 simp only[Sem.run_bind,run_underlying hu,Result.andThen_ok]
 cases l with
 |nil=>rfl
 |cons x l=>
  have hn:Instr.findNow (.array 2 3) (prV k) (prE (x::l)) 0=none:=rfl
  rw[hn]
  exact asking 0 k w (x::l) 0 0
theorem lookup_pr {F:List Nat}{w0 w:World}{Γ:List A}{b:Nat}{l:List Pr2}(hT:T F w0 w Γ) (hm:mapPr b l∈Γ) (k:Pr2):
  (Instr.lookup 306 (.map (some b)) (prV k) false).run Tp w=.ok (.bool (decide (k∈l))) w:=by
 have hu:Tp.underlying 306=some (.map 184 4):=by kernel_rfl
 have h1:(Instr.checkKey (prE l).toArray.isEmpty 10000 184 (prV k)).run Tp w=.ok () w:=pr_check 9998 _ k w
 have h2:=findKey_pr k l w
 have hz:(zeroValue 4).run Tp w=.ok (.bool false) w:=by kernel_rfl
 have hb:=hT.got hm
 simp only[Instr.lookup,Sem.run_bind,run_underlying hu,Result.andThen_ok,getObj,Sem.run,hb,Sem.run_pure,h1,h2]
 obtain⟨f1,f2⟩:=findPr_mem k l 0
 by_cases hk:k∈l
 ·obtain⟨j,hj⟩:=f1 hk
  rw[hj,decide_eq_true hk]; rfl
 ·rw[f2 hk,decide_eq_false hk]
  simp[hz]
theorem update_pr {F:List Nat}{w0 w:World}{Γ Γ':List A}{b:Nat}{l:List Pr2}(hT:T F w0 w Γ){k:Pr2}(hk:k∉l) (hu:Turn (mapPr b l) (mapPr b (l++[k])) Γ Γ'):
  ∃w',(Instr.mapUpdate 306 (.map (some b)) (prV k) (.bool true)).run Tp w=.ok () w'∧T F w0 w' Γ':=by
 have hd:Tp.underlying 306=some (.map 184 4):=by kernel_rfl
 have h1:(Instr.checkKey false 10000 184 (prV k)).run Tp w=.ok () w:=pr_check 9998 _ k w
 have h2:=findKey_pr k l w
 rw[(findPr_mem k l 0).2 hk]at h2
 obtain⟨Δ,hp1,_⟩:=hu.perm
 have hb:w.heap[b]?=some (.map (prE l).toArray l.length):=hT.got (hp1.mem_iff.2 List.mem_cons_self)
 have ho:=getObj_map (P:=Tp) hb
 have hs:=setObj_run (P:=Tp) (o':=.map ((prE l).toArray.push ⟨prV k,.bool true,l.length⟩) (l.length+1)) hb (fun _ _ _ h=>by cases h)
 refine⟨_,?_,hT.set hu⟩
 have e1:(prE (l++[k])).toArray=(prE l).toArray.push ⟨prV k,.bool true,l.length⟩:=by rw[prE_snoc]; simp
 have e2:(l++[k]).length=l.length+1:=by simp
 rw[e1,e2]
 simp only[Instr.mapUpdate,Sem.run_bind,run_underlying hd,Result.andThen_ok,ho,h1,h2,hs]
abbrev B32:=BitVec 32
abbrev u32v (x:B32):Value:=.int .u32 (x.toNat:Int)
theorem wrap32 (n:Int) (h:0≤n) (h':n<4294967296):IntKind.u32.wrap n=n:=by
 have e:IntKind.u32.wrap n=n%4294967296:=by simp[IntKind.wrap,IntKind.bits,IntKind.signed]
 rw[e]; omega
theorem wrapU64 (n:Int):IntKind.u64.wrap n=n%18446744073709551616:=by simp[IntKind.wrap,IntKind.bits,IntKind.signed]
theorem ofInt32 (x:B32):BitVec.ofInt 32 (x.toNat:Int)=x:=by
 apply BitVec.eq_of_toNat_eq
 simp
theorem b32_lt (x:B32):(x.toNat:Int)<4294967296:=by have:=x.isLt; omega
theorem xor32 (x y:B32):bits2 .xor .u32 (x.toNat:Int) (y.toNat:Int)=((x^^^y).toNat:Int):=by
 unfold bits2
 simp only[IntKind.bits,ofInt32]
 exact wrap32 _ (by omega) (b32_lt _)
theorem and32 (x y:B32):bits2 .and .u32 (x.toNat:Int) (y.toNat:Int)=((x &&& y).toNat:Int):=by
 unfold bits2
 simp only[IntKind.bits,ofInt32]
 exact wrap32 _ (by omega) (b32_lt _)
theorem shr32 (x:B32) (k:Nat):Int.fdiv (x.toNat:Int) (2 ^ k)=((x >>> k).toNat:Int):=by
 rw[BitVec.toNat_ushiftRight,Nat.shiftRight_eq_div_pow,Int.fdiv_eq_ediv_of_nonneg _ (Int.le_of_lt (Int.pow_pos (by decide)))]
 push_cast
 rfl
def poly:B32:=0x82f63b78#32
def step1 (x:B32):B32:=(x >>> 1)^^^(poly*(x &&& 1#32))
def step4 (x:B32):B32:=step1 (step1 (step1 (step1 x)))
theorem step1_bit (x:B32):step1 x=(x >>> 1)^^^(if x.getLsbD 0 then poly else 0#32):=by
 unfold step1
 congr 1
 have h:x &&& 1#32=if x.getLsbD 0 then 1#32 else 0#32:=by
  apply BitVec.eq_of_getLsbD_eq
  intro i hi
  by_cases h0:i=0
  ·subst h0
   rw[BitVec.getLsbD_and]
   cases hx:x.getLsbD 0<;>rfl
  ·have h1:(1#32).getLsbD i=false:=by
    rw[BitVec.getLsbD_one]; simp; omega
   rw[BitVec.getLsbD_and,h1,Bool.and_false]
   split
   ·exact h1.symm
   ·simp
 rw[h]
 split
 ·exact BitVec.mul_one ..
 ·exact BitVec.mul_zero ..
theorem step1_xor (x y:B32):step1 (x^^^y)=step1 x^^^step1 y:=by
 rw[step1_bit,step1_bit,step1_bit]
 apply BitVec.eq_of_getLsbD_eq
 intro i hi
 simp only[BitVec.getLsbD_xor,BitVec.getLsbD_ushiftRight]
 cases x.getLsbD 0<;>cases y.getLsbD 0<;>simp<;>(try (generalize poly.getLsbD i=p))<;>(generalize x.getLsbD (1+i)=a)<;>(generalize y.getLsbD (1+i)=b)<;>revert a b<;>simp<;>(try (revert p; decide))<;>(try decide)
theorem step4_xor (x y:B32):step4 (x^^^y)=step4 x^^^step4 y:=by simp only[step4,step1_xor]
theorem step1_even {x:B32}(h:x.getLsbD 0=false):step1 x=x >>> 1:=by rw[step1_bit,h]; simp
theorem step4_high (x:B32):step4 (x &&& 0xfffffff0#32)=x >>> 4:=by
 have hg:∀i,(x &&& 0xfffffff0#32).getLsbD i=(decide (4≤i)&&x.getLsbD i):=by
  intro i
  rw[BitVec.getLsbD_and]
  by_cases hi:i<32
  ·have:(0xfffffff0#32).getLsbD i=decide (4≤i):=by
    have:∀i:Fin 32,(0xfffffff0#32).getLsbD i.val=decide (4≤i.val):=by decide
    exact this ⟨i,hi⟩
   rw[this,Bool.and_comm]
  ·rw[BitVec.getLsbD_of_ge _ _ (by omega)]; simp
 generalize hy:x &&& 0xfffffff0#32=y at hg
 have s:∀(k:Nat) (z:B32),k<4→(∀i,z.getLsbD i=(decide (4≤k+i)&&x.getLsbD (k+i)))→∀i,(step1 z).getLsbD i=(decide (4≤k+1+i)&&x.getLsbD (k+1+i)):=by
  intro k z hk hz i
  rw[step1_even (by rw[hz,decide_eq_false (by omega),Bool.false_and]),BitVec.getLsbD_ushiftRight,hz,show k+(1+i)=k+1+i by omega]
 have h:=s 3 _ (by decide) (s 2 _ (by decide) (s 1 _ (by decide) (s 0 y (by decide) (fun i=>by rw[hg,Nat.zero_add]))))
 apply BitVec.eq_of_getLsbD_eq
 intro i hi
 unfold step4
 rw[h,BitVec.getLsbD_ushiftRight,decide_eq_true (by omega),Bool.true_and]
def half (x:B32):B32:=(x >>> 4)^^^step4 (x &&& 15#32)
theorem half_step4 (x:B32):half x=step4 x:=by
 have h:x=(x &&& 0xfffffff0#32)^^^(x &&& 15#32):=by
  apply BitVec.eq_of_getLsbD_eq
  intro i hi
  have h1:∀i:Fin 32,(0xfffffff0#32).getLsbD i.val=!(15#32).getLsbD i.val:=by decide
  have h2:=h1 ⟨i,hi⟩
  simp only[BitVec.getLsbD_xor,BitVec.getLsbD_and]at *
  rw[h2]
  cases x.getLsbD i<;>cases(15#32).getLsbD i<;>rfl
 unfold half
 conv=>rhs; rw[h,step4_xor,step4_high]
def byte32 (b:UInt8):B32:=BitVec.ofNat 32 b.toNat
def crcB (x:B32) (b:UInt8):B32:=step4 (step4 (x^^^byte32 b))
def crcMore (n:B32) (s:List UInt8):B32:= ~~~ (s.foldl crcB (~~~ n))
def crcSum (s:List UInt8):B32:=crcMore 0#32 s
def four (n:B32):List UInt8:=[UInt8.ofNat n.toNat,UInt8.ofNat (n.toNat / 256),UInt8.ofNat (n.toNat / 65536),UInt8.ofNat (n.toNat / 16777216)]
def it1:Nat→B32→B32
 |0,x=>x
 |j+1,x=>step1 (it1 j x)
theorem step1_val (x:B32):bits2 .xor .u32 (Int.fdiv (x.toNat:Int) (2 ^ 1)) (IntKind.u32.wrap (2197175160*(bits2 .and .u32 (x.toNat:Int) 1)))=((step1 x).toNat:Int):=by
 have h1:bits2 .and .u32 (x.toNat:Int) 1=((x &&& 1#32).toNat:Int):=and32 x 1#32
 have h2:IntKind.u32.wrap (2197175160*((x &&& 1#32).toNat:Int))=((poly*(x &&& 1#32)).toNat:Int):=by
  have e:IntKind.u32.wrap (2197175160*((x &&& 1#32).toNat:Int))=(2197175160*((x &&& 1#32).toNat:Int))%4294967296:=by simp[IntKind.wrap,IntKind.bits,IntKind.signed]
  rw[e,BitVec.toNat_mul]
  have:poly.toNat=2197175160:=rfl
  rw[this,Int.natCast_emod,Int.natCast_mul]
  rfl
 rw[h1,h2,shr32 x 1,xor32]
 rfl
def crtabC (n:Nat):Array Value:=((List.range 16).map fun i=>if i<n then u32v (step4 (BitVec.ofNat 32 i)) else .int .u32 0).toArray
theorem crtabC_size (n:Nat):(crtabC n).size=16:=by simp[crtabC]
theorem tabC_get (n i:Nat) (hi:i<16):(crtabC n)[i]?=some (if i<n then u32v (step4 (BitVec.ofNat 32 i)) else .int .u32 0):=by
 simp[crtabC,hi]
theorem tabC_step (n:Nat) (hn:n<16):(crtabC n).setIfInBounds n (u32v (step4 (BitVec.ofNat 32 n)))=crtabC (n+1):=by
 apply Array.ext_getElem?
 intro i
 by_cases hi:i<16
 ·rw[Array.getElem?_setIfInBounds,tabC_get (n+1) i hi,crtabC_size]
  by_cases h:n=i
  ·subst h; simp[hn]
  ·rw[if_neg h,tabC_get n i hi]
   congr 1
   by_cases h2:i<n
   ·rw[if_pos h2,if_pos (by omega)]
   ·rw[if_neg h2,if_neg (by omega)]
 ·rw[Array.getElem?_eq_none (by simp[crtabC_size]; omega),Array.getElem?_eq_none (by simp[crtabC_size]; omega)]
theorem storeBig_t {P:Program}{t0:TypeId}{i:TypeInfo}{F:List Nat}{w0 w:World}{Γ Δ:List A}{b:Nat}{c cs:Array Value}{t:TypeId}(hT:T F w0 w Γ) (hk:Pick (blk b c t) Γ Δ) (hi:P.info? t0=some i) (hs:cs.size=P.cellsOf t0)
  (hv:∀v∈cs.toList,scalar v=true) (hl:cs.size=c.size):∃w',(Instr.storeAt t0 (.pointer (some ⟨b,0,none⟩)) (.agg cs)).run P w=.ok () w'∧T F w0 w' (blk b cs t::Δ):=by
 obtain⟨w',h1,h2⟩:=stBig.t (P:=P) (K:=fun _ w'=>T F w0 w' (blk b (putAt c 0 cs.toList) t::Δ)) hT hk hi hs hv (by omega) fun w' h=>h
 rw[putAt_all hl.symm]at h2
 exact⟨w',h1,h2⟩
theorem tabC_scalar (n:Nat):∀v∈(crtabC n).toList,scalar v=true:=by
 intro v hv
 simp only[crtabC,List.mem_map]at hv
 obtain⟨i,_,rfl⟩:=hv
 split<;>rfl
theorem table_spec (w:World):Ret Tp 236 #[] w (.agg (crtabC 16)):=by
 refine ret_of (crc_table_calls ?_)
 unfold crc_table
 refine Alloc.t (T.nil w) fun k0 w1 h1=>Alloc.t h1 fun k1 w2 h2=>?_
 have h2':T [] w w2 [blk k1 (crtabC 0) 304,blk k0 (crtabC 0) 304]:=h2
 refine⟨fun vs w'=>∃n:Nat,vs=[.int .i64 n]∧n≤16∧T [] w w' [blk k1 (crtabC n) 304,blk k0 (crtabC 0) 304],fun vs _=>match vs with|[.int _ n]=>(16-n).toNat|_=>0,⟨0,rfl,by omega,h2'⟩,?_⟩
 rintro vs w3 ⟨n,rfl,hn,h3⟩
 refine⟨_,rfl,dec_t fun hlt=>?_,dec_f fun hge=>?_⟩
 ·have hlt:n<16:=by omega
  have e0:IntKind.u32.wrap (n:Int)=((it1 0 (BitVec.ofNat 32 n)).toNat:Int):=by
   rw[wrap32 _ (by omega) (by omega)]
   show(n:Int)=((BitVec.ofNat 32 n).toNat:Int)
   rw[BitVec.toNat_ofNat]; omega
  refine⟨fun vs w'=>∃j:Nat,vs=[u32v (it1 j (BitVec.ofNat 32 n)),.int .i64 j]∧j≤4∧T [] w w' [blk k1 (crtabC n) 304,blk k0 (crtabC 0) 304],fun vs _=>match vs with|[_,.int _ j]=>(4-j).toNat|_=>0,⟨0,by rw[e0]; rfl,by omega,h3⟩,?_⟩
  rintro vs w4 ⟨j,rfl,hj,h4⟩
  refine⟨_,_,rfl,dec_t fun hjl=>⟨⟨j+1,?_,by omega,h4⟩,?_⟩,dec_f fun hjg=>⟨by omega,by omega,?_⟩⟩
  ·rw[step1_val,wrap64 _ (by omega) (by omega)]; rfl
  ·show((4:Int)-IntKind.i64.wrap ((j:Int)+1)).toNat<((4:Int)-(j:Int)).toNat
   rw[wrap64 _ (by omega) (by omega)]; omega
  ·have hj4:j=4:=by omega
   subst hj4
   rw[addr_add,Nat.zero_add,Nat.mul_one,show((n:Nat):Int).toNat=n by omega]
   refine St.t h4 .head (by rw[crtabC_size]; omega) (tabC_step n hlt) rfl fun w5 h5=>⟨⟨n+1,?_,by omega,h5⟩,?_⟩
   ·rw[wrap64 _ (by omega) (by omega)]; rfl
   ·show((16:Int)-IntKind.i64.wrap ((n:Int)+1)).toNat<((16:Int)-(n:Int)).toNat
    rw[wrap64 _ (by omega) (by omega)]; omega
 ·have hn16:n=16:=by omega
  subst hn16
  obtain⟨w6,hr,h6⟩:=storeBig_t (P:=Tp) (t0:=304) (i:=Tryz.t304) (cs:=crtabC 16) h3 (.tail .head) (by kernel_rfl) (by rw[crtabC_size]; kernel_rfl) (tabC_scalar 16) (by rw[crtabC_size,crtabC_size])
  refine⟨crtabC 16,crtabC_size 16,T.big h3 (by repeat constructor) (fun i _=>by rw[Nat.zero_add]),w6,hr,crtabC 16,crtabC_size 16,T.big h6 (by repeat constructor) (fun i _=>by rw[Nat.zero_add]),rfl,h6.chg.ext⟩
theorem half_spec {F:List Nat}{w0 w:World}{Γ:List A}{kx kt:Nat}{x:B32}{tx:TypeId}(hT:T F w0 w (blk kx #[u32v x] tx::Γ)) (ht:blk kt (crtabC 16) 304∈Γ){Φ:Ending→World→Prop}
  (hΦ:∀w',T F w0 w' (blk kx #[u32v (step4 x)] tx::Γ)→Φ (.returned (.tuple #[])) w'):
  Calls Tp 237 #[.pointer (some ⟨kx,0,none⟩),.pointer (some ⟨kt,0,none⟩)] w Φ:=by
 refine(crc_More_1_calls (R:=fun v w'=>v=.tuple #[]∧T F w0 w' (blk kx #[u32v (step4 x)] tx::Γ)) ?_).mono fun e w' ⟨v,he,hv,h⟩=>by rw[he,hv]; exact hΦ w' h
 unfold crc_More_1
 have hd:=hT.drew
 have ha:bits2 .and .u32 (x.toNat:Int) 15=((x &&& 15#32).toNat:Int):=and32 x 15#32
 have hlt:(x &&& 15#32).toNat<16:=by
  rw[BitVec.toNat_and]
  exact Nat.lt_of_le_of_lt Nat.and_le_right (by decide)
 refine⟨fun w=>T F w0 w (blk kx #[u32v x] tx::Γ),hd,_,fun w h=>h.ld List.mem_cons_self rfl,_,fun w h=>h.ld List.mem_cons_self rfl,by rw[ha]; omega,by rw[ha]; omega,((step4 (x &&& 15#32)).toNat:Int),fun w h=>?_,?_⟩
 ·rw[ha,addr_add,Nat.zero_add,Nat.mul_one,Int.toNat_natCast]
  refine h.ld (List.mem_cons_of_mem _ ht) ?_
  rw[tabC_get 16 _ hlt,if_pos hlt,BitVec.ofNat_toNat]
  simp
 ·rw[shr32 x 4,xor32]
  refine St.t hd .head (by simp) (by rfl) rfl fun w1 h1=>⟨rfl,?_⟩
  rw[←half_step4]
  exact h1
theorem more_spec (n:B32) (s:ByteArray) (hs:s.size≤1000000000) (w:World):Ret Tp 199 #[u32v n,.string s] w (u32v (crcMore n s.data.toList)):=by
 refine ret_of (crc_More_calls ?_)
 unfold crc_More
 refine(table_spec w).mono fun e w1 ⟨he,hx⟩=>⟨_,crtabC_size 16,he,?_⟩
 have h1:T [] w w1 []:=(T.nil w).quiet hx
 refine Alloc.t h1 fun k5 w2 h2=>?_
 have h2':T [] w w2 [blk k5 (crtabC 0) 304]:=h2
 obtain⟨w3,hr,h3⟩:=storeBig_t (P:=Tp) (t0:=304) (i:=Tryz.t304) (cs:=crtabC 16) h2' .head (by kernel_rfl) (by rw[crtabC_size]; kernel_rfl) (tabC_scalar 16) (by rw[crtabC_size,crtabC_size])
 refine⟨w3,hr,Alloc.t h3 fun k6 w4 h4=>?_⟩
 have en:bits2 .xor .u32 IntKind.u32.max (n.toNat:Int)=((~~~ n).toNat:Int):=by
  have:IntKind.u32.max=(((-1#32:B32)).toNat:Int):=by decide
  rw[this,xor32]
  congr 2
 rw[en]
 refine St.t h4 .head (by simp) (by rfl) rfl fun w5 h5=>?_
 have hl:s.data.toList.length=s.size:=Array.length_toList
 refine⟨fun vs w'=>∃i:Nat,vs=[.int .i64 i]∧i≤s.size∧T [] w w' [blk k6 #[u32v ((s.data.toList.take i).foldl crcB (~~~ n))] 215,blk k5 (crtabC 16) 304],fun vs _=>match vs with|[.int _ i]=>(s.size-i).toNat|_=>0,⟨0,rfl,by omega,h5⟩,?_⟩
 rintro vs w6 ⟨i,rfl,hi,h6⟩
 refine⟨_,rfl,dec_t fun hlt=>?_,dec_f fun hge=>?_⟩
 ·have hlt:i<s.size:=by omega
  have hd:=h6.drew
  have hb:((s.data.toList.getD i 0).toNat:Int)<256:=by have:=(s.data.toList.getD i 0).toNat_lt; omega
  have ex:∀x:B32,bits2 .xor .u32 (x.toNat:Int) (IntKind.u32.wrap ((s.data.toList.getD i 0).toNat:Int))=((x^^^byte32 (s.data.toList.getD i 0)).toNat:Int):=by
   intro x
   have:IntKind.u32.wrap ((s.data.toList.getD i 0).toNat:Int)=((byte32 (s.data.toList.getD i 0)).toNat:Int):=by
    rw[wrap32 _ (by omega) (by omega)]
    unfold byte32
    rw[BitVec.toNat_ofNat]
    omega
   rw[this,xor32]
  refine⟨fun w'=>T [] w w' _,hd,_,fun w h=>h.ld (by repeat constructor) rfl,((s.data.toList.getD i 0).toNat:Int),fun w h=>?_,?_⟩
  ·have:=index_str (P:=Tp) (t:=9) (k:=.i64) (n:=i) (s:=s) (w:=w) (by kernel_rfl) (by omega) (by omega)
   rwa [show((i:Nat):Int).toNat=i by omega]at this
  ·rw[ex]
   refine St.t hd .head (by simp) (by rfl) rfl fun w7 h7=>?_
   refine half_spec h7 (by repeat constructor) fun w8 h8=>⟨rfl,half_spec h8 (by repeat constructor) fun w9 h9=>⟨rfl,⟨i+1,?_,by omega,?_⟩,?_⟩⟩
   ·rw[wrap64 _ (by omega) (by omega)]; rfl
   ·have:(s.data.toList.take (i+1)).foldl crcB (~~~ n)=crcB ((s.data.toList.take i).foldl crcB (~~~ n)) (s.data.toList.getD i 0):=by
     rw[List.take_add_one,List.getElem?_eq_getElem (by omega),List.getD_eq_getElem?_getD,List.getElem?_eq_getElem (by omega)]
     simp
    rw[this]
    exact h9
   ·show((s.size:Int)-IntKind.i64.wrap ((i:Int)+1)).toNat<((s.size:Int)-(i:Int)).toNat
    rw[wrap64 _ (by omega) (by omega)]; omega
 ·have hie:i=s.size:=by omega
  subst hie
  rw[List.take_of_length_le (by omega)]at h6
  refine⟨_,h6.ld (by repeat constructor) rfl,?_,h6.chg.ext⟩
  have en2:∀x:B32,bits2 .xor .u32 IntKind.u32.max (x.toNat:Int)=((~~~ x).toNat:Int):=by
   intro x
   have:IntKind.u32.max=(((-1#32:B32)).toNat:Int):=by decide
   rw[this,xor32]
   congr 2
  rw[en2]
  rfl
theorem crsum_spec (s:ByteArray) (hs:s.size≤1000000000) (w:World):Ret Tp 149 #[.string s] w (u32v (crcSum s.data.toList)):=by
 refine ret_of (crc_Sum_calls ?_)
 unfold crc_Sum
 exact(more_spec 0#32 s hs w).mono fun e w1 ⟨he,hx⟩=>⟨_,he,rfl,hx⟩
end Go.Proofs.YtkknkmplmilihaaGreat
end
section
namespace Go.Sh
open Go.RowKit Go.ChangeShapes Go.WideShapes
theorem Ext.kept {W W':World}(h:Ext W W') (may:MemPlace→Prop):W.keptBut W' may:=by
 refine⟨h.os,h.output,fun i hi=>?_⟩
 rw[h.heap i hi]
 cases hw:W.heap[i]? with
 |none=>simp
 |some o=>cases o<;>simp
theorem Ext.frozen {W W':World}(h:Ext W W'){a:Addr}(ha:a.block<W.heap.size):W'.frozen? a=W.frozen? a:=by simp only[World.frozen?,h.heap _ ha]
theorem post_ext {P:Program}{H:Type}{enc:TypeId×Value→H}{f:Func}{s:ChangeSpec}{apart fresh handsOn again:Bool}{W W':World}{args:Array Value}{v:Value}{ds gs:List (DataW H)}{before pa pv:List MemPlace}
  (hW:DataW.Whole enc P f.params.toList s.vars apart W args.toList ds gs before)
  (hres:∀(b:Nat) (sp:Nat→Bool) (hd:Bool),DataW.TrodAll enc P W' b sp hd f.resultTypes.toList (v.resultList f.resultTypes.size) (s.fn H (ds++gs)).results [])
  (hargs:∀sp:Nat→Bool,(∀p∈before,sp p.block=true)→DataW.TrodAll enc P W' 0 sp true f.params.toList args.toList (s.fn H (ds++gs)).args pa)
  (hvars:∀sp:Nat→Bool,(∀p∈before,sp p.block=true)→DataW.TrodVars enc P W' sp s.vars (s.fn H (ds++gs)).vars pv)
  (hps:before=pa++pv) (hx:Ext W W')
  (hok:∀(j:Nat) (t:TypeId) (r:Value),f.resultTypes[j]?=some t→(v.resultList f.resultTypes.size)[j]?=some r→Value.okWide P W' .any 0 t r):
  s.post enc P f apart fresh handsOn again W args v W':=by
 have hlt:∀p∈before,p.block<W.heap.size:=hW.lt
 have hold:∀p∈before,(fun b=>decide (b<W.heap.size)) p.block=true:=fun p hp=>by simpa using hlt p hp
 refine⟨ds,gs,before,[],pa,pv,hW,hres _ _ _,hargs _ hold,hvars _ hold,World.keptBut_mono (fun p hp=>⟨hp,?_⟩) (hx.kept (·∈before)),fun _=>?_⟩
 ·rw[hps,List.mem_append]at hp
  exact Or.inr hp
 ·obtain⟨_,_,_,_,_,hz,hn⟩:=hW
  refine⟨hok,_,_,([]++pa)++pv,⟨[]++pa,pv,trodAll_append (hargs _ (fun _ _=>rfl)) (hres _ _ _),hvars _ (fun _ _=>rfl),rfl,?_,?_⟩,?_⟩
  ·intro b off hp
   have hb:(MemPlace.cell b off)∈before:=by rw[hps]; simpa using hp
   rw[hx.frozen (hlt _ hb)]
   exact hz b off hb
  ·intro ha
   have:=hn ha
   rw[hps]at this
   simpa using this
  ·intro p hp _
   rw[hps]
   simpa using hp
theorem u8_of {a:Int}(h:(Lit.int .u8 a).wf=true):0≤a∧a≤255:=by
 simp[Lit.wf,IntKind.min,IntKind.max,IntKind.bits,IntKind.signed]at h
 omega
end Go.Sh
end
section
namespace Go.Sh
open Go.ChangeShapes Go.WideShapes Go.ChangeAt Go.RowKit
theorem Ext.same {W W':World}(h:Ext W W'){p:MemPlace}(hp:p.block<W.heap.size):W.sameAt W' p:=by
 cases p with
 |cell b o=>show W'.cell? ⟨b,o,none⟩=W.cell? ⟨b,o,none⟩; unfold World.cell?; rw[h.heap b hp]
 |map b=>show W'.heap[b]?=W.heap[b]?; exact h.heap b hp
theorem trodAll_carry {H:Type}{enc:TypeId×Value→H}{P:Program}{W W':World}{sp:Nat→Bool}:∀{ts:List TypeId}{vs:List Value}{ds:List (DataW H)}{ps:List MemPlace},DataW.TrodAll enc P W 0 sp true ts vs ds ps→(∀p∈ps,W.sameAt W' p)→DataW.TrodAll enc P W' 0 sp true ts vs ds ps
 |[],[],[],_,h,_=>h
 |_::_,_::_,_::_,_,⟨p,q,⟨n,h1⟩,h2,e⟩,hs=>⟨p,q,⟨n,DataW.trod_carry n _ _ _ h1 fun x hx=>hs x (by rw[e]; exact List.mem_append_left _ hx)⟩,trodAll_carry h2 fun x hx=>hs x (by rw[e]; exact List.mem_append_right _ hx),e⟩
theorem law_post {P:Program}{H:Type}{enc:TypeId×Value→H}{f:Func}{s:ChangeSpec}{apart fresh handsOn again:Bool}{W W':World}{args:Array Value}{ds gs:List (DataW H)}{before:List MemPlace}{tb:TypeId}
  (hl:laidOutB P=true) (hm:mapsRowed P=true) (hz:((List.range P.types.size).all fun t=>match P.underlying t with|some (.slice e)=>decide (0<P.cellsOf e)|_=>true)=true) (htp:(f.params.toList.all fun t=>decide (t<P.types.size))=true)
  (hW:DataW.Whole enc P f.params.toList s.vars apart W args.toList ds gs before) (hv:s.vars=[]) (hargs:(s.fn H (ds++gs)).args=ds) (hres:(s.fn H (ds++gs)).results=[.lit (.bool true)]) (hvars:(s.fn H (ds++gs)).vars=[])
  (hrt:f.resultTypes=#[tb]) (htb:P.underlying tb=some .bool) (hx:Ext W W'):s.post enc P f apart fresh handsOn again W args (.bool true) W':=by
 have hlt:=hW.lt
 have hW':=hW
 obtain⟨p,q,hA,hV,rfl,hfz,hnd⟩:=hW
 rw[hv]at hV
 obtain⟨rfl,rfl⟩:=trodVars_none hV
 rw[List.append_nil]at hW' hlt
 have hT:∀t∈f.params.toList,t<P.types.size:=fun t ht=>by simpa using List.all_eq_true.1 htp t ht
 refine post_ext (pa:=p) (pv:=[]) hW' (fun _ _ _=>?_) (fun sp hsp=>?_) (fun sp _=>?_) (by simp) hx ?_
 ·rw[hres,hrt]
  exact trodAll_cons_mk (shut_bool htb _) trodAll_mk0
 ·rw[hargs]
  exact DataW.TrodAll.respare (kids_rows hl hm) (slices_full_of P hz) hT (trodAll_carry hA fun x hx'=>hx.same (hlt x hx')) hsp
 ·rw[hvars,hv]; rfl
 ·exact ok_one hrt rfl (okWide_bool_mk htb _)
section
variable {P:Program}{H:Type}{enc:TypeId×Value→H}{w:World}{t e:TypeId}{v:Value}{d:DataW H}{ps:List MemPlace}{r:Reach}{b0:Nat}
end
end Go.Sh
end
section
namespace Go.Proofs.YtkknkmplmilihaaGreat
theorem own:ownKnob Tp.godebug=none:=by kernel_rfl
theorem rows_laid:laidOutB Tp=true:=by kernel_rfl
theorem rows_maps:mapsRowed Tp=true:=by kernel_rfl
theorem rows_full:((List.range Tp.types.size).all fun t=>match Tp.underlying t with|some (.slice e)=>decide (0<Tp.cellsOf e)|_=>true)=true:=by kernel_rfl
end Go.Proofs.YtkknkmplmilihaaGreat
end
section
namespace Go.Proofs.YtkknkmplmilihaaGreat
open Go.Sh Go.RowKit
theorem bytes_spec (n:B32){F:List Nat}{w0 w:World}{Γ:List A}(hT:T F w0 w Γ){Φ:Ending→World→Prop}(hΦ:∀k w',T F w0 w' (rowP 5 1 (some k) 4 4 (bvals (four n))::Γ)→Φ (.returned (.slice (some ⟨k,0,none⟩) 4 4)) w'):
  Calls Tp 148 #[u32v n] w Φ:=by
 refine(crc_bytes_calls (R:=fun v w'=>∃k,v=.slice (some ⟨k,0,none⟩) 4 4∧T F w0 w' (rowP 5 1 (some k) 4 4 (bvals (four n))::Γ)) ?_).mono fun e w' ⟨v,he,k,hv,h⟩=>by rw[he,hv]; exact hΦ k w' h
 unfold crc_bytes
 refine Alloc.t hT fun k w1 h1=>⟨k,rfl,blk_row h1 ?_ rfl (by decide)⟩
 have hlt:=n.isLt
 have hw:∀d:Nat,0<d→IntKind.u8.wrap ((n.toNat:Int) / (d:Int))=((UInt8.ofNat (n.toNat / d)).toNat:Int):=by
  intro d hd
  rw[wrap8]
  simp
 have h0:IntKind.u8.wrap (n.toNat:Int)=((UInt8.ofNat n.toNat).toNat:Int):=by rw[wrap8]; simp
 have hf:∀k:Nat,Int.fdiv (n.toNat:Int) (2 ^ k)=(n.toNat:Int) / ((2 ^ k:Nat):Int):=by
  intro k
  rw[Int.fdiv_eq_ediv_of_nonneg _ (Int.le_of_lt (Int.pow_pos (by decide)))]
  push_cast
  rfl
 rw[hf 8,hf 16,hf 24,hw _ (by decide),hw _ (by decide),hw _ (by decide),h0]
 rfl
def padB (l:List UInt8) (n:Nat):List UInt8:=l++List.replicate (n-l.length) 0
def sealB (l:List UInt8) (size:Nat):List UInt8:=padB l (size-4)++four (crcSum (padB l (size-4)))
theorem four_len (n:B32):(four n).length=4:=rfl
theorem padB_len {l:List UInt8}{n:Nat}(h:l.length≤n):(padB l n).length=n:=by simp[padB]; omega
theorem sealB_len {l:List UInt8}{n:Nat}(h:l.length+4≤n):(sealB l n).length=n:=by
 unfold sealB
 rw[List.length_append,padB_len (by omega),four_len]; omega
def openB (s:List UInt8):List UInt8×Bool:=if s.length<4 then ([],false) else if four (crcSum (s.take (s.length-4)))=s.drop (s.length-4) then (s.take (s.length-4),true) else ([],false)
theorem open_seal {l:List UInt8}{n:Nat}(h:l.length+4≤n):openB (sealB l n)=(padB l (n-4),true):=by
 have hl:=sealB_len h
 have hp:(padB l (n-4)).length=n-4:=padB_len (by omega)
 have h1:(sealB l n).take (n-4)=padB l (n-4):=by unfold sealB; exact List.take_left' hp
 have h2:(sealB l n).drop (n-4)=four (crcSum (padB l (n-4))):=by unfold sealB; exact List.drop_left' hp
 unfold openB
 rw[hl,if_neg (by omega),h1,h2,if_pos rfl]
theorem open_spec (s:ByteArray) (hs:s.size≤1000000000) (w:World):Ret Tp 80 #[.string s] w (.tuple #[.string (strB (openB s.data.toList).1),.bool (openB s.data.toList).2]):=by
 refine ret_of (crc_Open_calls ?_)
 unfold crc_Open
 have hl:s.data.toList.length=s.size:=Array.length_toList
 have wr:IntKind.i64.wrap ((s.size:Int)-4)=(s.size:Int)-4:=wrap64 _ (by omega) (by omega)
 rw[wr]
 refine⟨fun w'=>Ext w w',(Ext.refl w).drew,dec_t fun hlt=>⟨?_,(Ext.refl w).drew⟩,dec_f fun hge=>?_⟩
 ·unfold openB
  rw[if_pos (by omega)]
 ·have h4:4≤s.size:=by omega
  have htn:((s.size:Int)-4).toNat=s.size-4:=by omega
  have hs1:s.extract 0 (s.size-4)=strB (s.data.toList.take (s.size-4)):=by
   conv=>lhs; rw[←strB_list s]
   rw[strB_extract,List.drop_zero,Nat.sub_zero]
  have hs2:s.extract (s.size-4) s.size=strB (s.data.toList.drop (s.size-4)):=by
   conv=>lhs; rw[←strB_list s]
   rw[strB_extract,strB_size,hl]
   congr 1
   rw[List.take_of_length_le (by rw[List.length_drop,hl]; omega)]
  have hto:∀w',(Instr.sliceAt 9 (.string s) none (some (.int .i64 ((s.size:Int)-4))) none).run Tp w'=.ok (.string (strB (s.data.toList.take (s.size-4)))) w':=fun w'=>by
   rw[slice_to (by kernel_rfl) (by omega) (by omega),htn,hs1]
  have hfrom:∀w',(Instr.sliceAt 9 (.string s) (some (.int .i64 ((s.size:Int)-4))) none none).run Tp w'=.ok (.string (strB (s.data.toList.drop (s.size-4)))) w':=fun w'=>by
   rw[slice_from (by kernel_rfl) (by omega) (by omega),htn,hs2]
  refine⟨_,fun w' _=>hto w',?_⟩
  have hz:(strB (s.data.toList.take (s.size-4))).size≤1000000000:=by rw[strB_size,List.length_take]; omega
  refine(crsum_spec _ hz _).mono fun e w1 ⟨he,hx1⟩=>⟨_,he,((Ext.refl w).drew).trans hx1,?_⟩
  have hT:T [] w w1 []:=(T.nil w).quiet (((Ext.refl w).drew).trans hx1)
  refine bytes_spec _ hT fun k w2 h2=>⟨_,_,_,rfl,h2.chg.ext,?_⟩
  refine⟨_,fun x0 hx=>by rw[hx]; exact row_string h2 List.mem_cons_self,_,fun w' _=>hfrom w',?_⟩
  have e1:(strB (four (crcSum (strB (s.data.toList.take (s.size-4))).data.toList))).toList=four (crcSum (s.data.toList.take (s.size-4))):=strB_toList _
  rw[e1,strB_toList]
  have ho:openB s.data.toList=if four (crcSum (s.data.toList.take (s.size-4)))=s.data.toList.drop (s.size-4) then (s.data.toList.take (s.size-4),true) else ([],false):=by
   unfold openB
   rw[if_neg (by omega),hl]
  by_cases hq:four (crcSum (s.data.toList.take (s.size-4)))=s.data.toList.drop (s.size-4)
  ·rw[ho,if_pos hq,hq]
   simp only[beq_self_eq_true,Bool.not_true]
   exact⟨fun h=>(by cases h),fun _=>⟨_,_,hto _,rfl,h2.chg.ext⟩⟩
  ·rw[ho,if_neg hq]
   have:(four (crcSum (s.data.toList.take (s.size-4)))==s.data.toList.drop (s.size-4))=false:=by simpa using hq
   rw[this]
   exact yes rfl ⟨rfl,h2.chg.ext⟩
theorem seal_spec (s:ByteArray) (size:Nat) (hs:s.size+4≤size) (hz:size≤4096) (w:World):Ret Tp 130 #[.string s,.int .i64 (size:Int)] w (.tuple #[.string (strB (sealB s.data.toList size)),.bool true]):=by
 refine ret_of (crc_Seal_calls ?_)
 unfold crc_Seal
 have wr:IntKind.i64.wrap ((size:Int)-4)=(size:Int)-4:=wrap64 _ (by omega) (by omega)
 have hn:((size:Int)-4).toNat=size-4:=by omega
 have hl:s.data.toList.length=s.size:=Array.length_toList
 rw[wr]
 refine no (decide_eq_false (by omega)) (no (decide_eq_false (by omega)) (no (decide_eq_false (by omega)) ?_))
 obtain⟨k,w1,hm,h1⟩:=make_t (P:=Tp) (t:=86) (e:=5) (i:=Tryz.t5) (z:=.int .u8 0) (kl:=.i64) (kc:=.i64) (n:=(size:Int)-4) (c:=(size:Int)-4) (by kernel_rfl) (by kernel_rfl) (by kernel_rfl) (by kernel_rfl) (by rfl) (by kernel_rfl) (by omega) (Int.le_refl _) (by omega) (T.nil w)
 rw[hn]at hm h1
 obtain⟨w2,hcp,h2⟩:=copyStr_t (P:=Tp) (dT:=86) (sT:=9) (ty:=3) (cs:=#[false,false]) (s:=s) (by kernel_rfl) (by kernel_rfl) (by omega) h1 .head
 have ex:Go.Lib.byteCells s.data.toList++(List.replicate (size-4) ((Value.int .u8 0).cells.getD 0 undef)).drop s.size=bvals (padB s.data.toList (size-4)):=by
  show bvals s.data.toList++(List.replicate (size-4) (Value.int .u8 0)).drop s.size=_
  rw[bvals_zeros,bvals_drop,bvals_append,List.drop_replicate]
  unfold padB
  rw[hl]
 rw[ex]at h2
 refine⟨_,_,_,w1,hm,_,w2,hcp,_,w2,row_string h2 List.mem_cons_self,?_⟩
 have hp:(padB s.data.toList (size-4)).length=size-4:=padB_len (by omega)
 refine(crsum_spec _ (by rw[strB_size,hp]; omega) _).mono fun e w3 ⟨he,hx⟩=>⟨_,he,?_⟩
 have h3:=h2.quiet hx
 refine bytes_spec _ h3 fun k4 w4 h4=>⟨_,_,_,rfl,?_⟩
 have hr4:=h4.says (x:=rowP 5 1 (some k4) 4 4 _) List.mem_cons_self
 obtain⟨g5,c5,w5,ha,h5⟩:=append_t (P:=Tp) (t:=86) (ty:=86) (e:=5) (i:=Tryz.t5) (z:=.int .u8 0) (size:=1) #[false,false] (by kernel_rfl) (by kernel_rfl) (by kernel_rfl) (by kernel_rfl) (by rfl)
  h4 (.tail .head) (a:=⟨k4,0,none⟩) (m:=4) (c:=4) (news:=bvals (four (crcSum (padB s.data.toList (size-4))))) (by rfl) (fun j u hu=>by rw[addr_add,Nat.zero_add]; exact rowP.cell hr4 hu) (bvals_one _) (by simp only[maxLen]; omega)
  (by have:(Tryz.t5).bytes=1:=by kernel_rfl
      rw[this]; omega)
 rw[bvals_append]at h5
 refine⟨_,_,_,w5,ha,_,w5,row_string h5 List.mem_cons_self,rfl,h5.chg.ext⟩
def leB (n w:Nat):List UInt8:=(List.range w).map fun k=>UInt8.ofNat (n / 2 ^ (8*k))
def leN:List UInt8→Nat
 |[]=>0
 |b::r=>b.toNat+256*leN r
def wsum (ws:List Nat) (i:Nat):Nat:=(ws.take i).sum
def encP:List Nat→List Nat→List UInt8
 |n::ns,w::ws=>leB n w++encP ns ws
 |_,_=>[]
def decP (s:List UInt8):List Nat→List Nat
 |[]=>[]
 |w::ws=>leN (s.take w)::decP (s.drop w) ws
theorem leB_len (n w:Nat):(leB n w).length=w:=by simp[leB]
theorem leB_succ (n w:Nat):leB n (w+1)=UInt8.ofNat n::leB (n / 256) w:=by
 unfold leB
 rw[List.range_succ_eq_map]
 simp only[List.map_cons,List.map_map,Nat.mul_zero,Nat.pow_zero,Nat.div_one,List.cons.injEq,true_and]
 apply List.map_congr_left
 intro k _
 simp only[Function.comp]
 rw[Nat.div_div_eq_div_mul,show 8*(k+1)=8+8*k by omega,Nat.pow_add]
theorem leN_leB:∀(w n:Nat),n<256 ^ w→leN (leB n w)=n
 |0,n,h=>by have:n=0:=by simpa using h
            subst this; rfl
 |w+1,n,h=>by
  rw[leB_succ,leN,leN_leB w (n / 256) (by rw[Nat.div_lt_iff_lt_mul (by decide),←Nat.pow_succ]; exact h)]
  have:(UInt8.ofNat n).toNat=n%256:=by simp
  rw[this]; omega
theorem leN_snoc:∀(l:List UInt8) (b:UInt8),leN (l++[b])=leN l+b.toNat*256 ^ l.length
 |[],b=>by simp[leN]
 |c::l,b=>by
  simp only[List.cons_append,leN,leN_snoc l b,List.length_cons,Nat.pow_succ]
  have:256*(b.toNat*256 ^ l.length)=b.toNat*(256 ^ l.length*256):=by rw[Nat.mul_comm 256,Nat.mul_assoc]
  rw[Nat.mul_add,this]; omega
theorem leN_lt:∀(l:List UInt8),leN l<256 ^ l.length
 |[]=>by simp[leN]
 |b::l=>by
  have h:=leN_lt l
  have hb:=b.toNat_lt
  simp only[leN,List.length_cons,Nat.pow_succ]
  omega
theorem wsum_zero (ws:List Nat):wsum ws 0=0:=rfl
theorem wsum_cons (w:Nat) (ws:List Nat) (i:Nat):wsum (w::ws) (i+1)=w+wsum ws i:=by simp[wsum]
theorem wsum_step {ws:List Nat}{i x:Nat}(h:ws[i]?=some x):wsum ws (i+1)=wsum ws i+x:=by
 unfold wsum
 rw[List.take_add_one,h]
 simp
theorem wsum_all (ws:List Nat){i:Nat}(h:ws.length≤i):wsum ws i=ws.sum:=by unfold wsum; rw[List.take_of_length_le h]
theorem wsum_le {ws:List Nat}{i j:Nat}(h:i≤j):wsum ws i≤wsum ws j:=by
 induction j with
 |zero=>obtain rfl:i=0:=by omega
        exact Nat.le_refl _
 |succ j ih=>
  by_cases hij:i=j+1
  ·subst hij; exact Nat.le_refl _
  ·refine Nat.le_trans (ih (by omega)) ?_
   cases hj:ws[j]? with
   |some x=>rw[wsum_step hj]; omega
   |none=>
    have:=List.getElem?_eq_none_iff.1 hj
    rw[wsum_all ws this,wsum_all ws (by omega)]; exact Nat.le_refl _
theorem wsum_max {ws:List Nat}(i:Nat):wsum ws i≤ws.sum:=by
 rcases Nat.le_total i ws.length with h|h
 ·have:=wsum_le (ws:=ws) h
  rwa [wsum_all ws (Nat.le_refl _)]at this
 ·rw[wsum_all ws h]; exact Nat.le_refl _
theorem encP_len:∀(ns ws:List Nat),ns.length=ws.length→(encP ns ws).length=ws.sum
 |[],[],_=>rfl
 |n::ns,w::ws,h=>by simp only[encP,List.length_append,leB_len,List.sum_cons,encP_len ns ws (by simpa using h)]
theorem encP_get:∀(ns ws:List Nat) (i k v x:Nat),ws[i]?=some x→ns[i]?=some v→k<x→(encP ns ws)[wsum ws i+k]?=some (UInt8.ofNat (v / 2 ^ (8*k)))
 |[],_,i,_,_,_,_,h,_=>by simp at h
 |_::_,[],i,_,_,_,h,_,_=>by simp at h
 |n::ns,w::ws,0,k,v,x,hw,hn,hk=>by
  simp only[List.getElem?_cons_zero,Option.some.injEq]at hw hn
  subst hw; subst hn
  simp only[encP,wsum_zero,Nat.zero_add]
  rw[List.getElem?_append_left (by rw[leB_len]; exact hk)]
  simp[leB,hk]
 |n::ns,w::ws,i+1,k,v,x,hw,hn,hk=>by
  simp only[List.getElem?_cons_succ]at hw hn
  simp only[encP,wsum_cons]
  rw[List.getElem?_append_right (by rw[leB_len]; omega),leB_len,show w+wsum ws i+k-w=wsum ws i+k by omega]
  exact encP_get ns ws i k v x hw hn hk
theorem decP_len (s:List UInt8):∀(ws:List Nat),(decP s ws).length=ws.length:=by
 intro ws
 induction ws generalizing s with
 |nil=>rfl
 |cons w ws ih=>simp[decP,ih]
theorem decP_get:∀(ws:List Nat) (s:List UInt8) (i x:Nat),ws[i]?=some x→(decP s ws)[i]?=some (leN ((s.drop (wsum ws i)).take x))
 |[],_,i,_,h=>by simp at h
 |w::ws,s,0,x,h=>by
  simp only[List.getElem?_cons_zero,Option.some.injEq]at h
  subst h
  simp[decP,wsum_zero]
 |w::ws,s,i+1,x,h=>by
  simp only[List.getElem?_cons_succ]at h
  simp only[decP,List.getElem?_cons_succ,wsum_cons]
  rw[decP_get ws (s.drop w) i x h,List.drop_drop]
def curP (s:List UInt8) (ws:List Nat) (m j:Nat):Nat:=leN ((s.drop (wsum ws j)).take (min (m-wsum ws j) (ws.getD j 0)))
theorem curP_zero (s:List UInt8) (ws:List Nat) (j:Nat):curP s ws 0 j=0:=by simp[curP,leN]
theorem curP_all (s:List UInt8){ws:List Nat}{j x:Nat}(h:ws[j]?=some x):curP s ws ws.sum j=leN ((s.drop (wsum ws j)).take x):=by
 unfold curP
 have h1:=wsum_step h
 have h2:=wsum_max (ws:=ws) (j+1)
 have h3:ws.getD j 0=x:=by simp[List.getD,h]
 rw[h3,Nat.min_eq_right (by omega)]
theorem curP_other (s:List UInt8){ws:List Nat}{i k x j:Nat}(h:ws[i]?=some x) (hk:k<x) (hj:j≠i):curP s ws (wsum ws i+k+1) j=curP s ws (wsum ws i+k) j:=by
 unfold curP
 congr 2
 rcases Nat.lt_or_ge j i with h1|h1
 ·cases hy:ws[j]? with
  |none=>
   have h4:=List.getElem?_eq_none_iff.1 hy
   have:ws.getD j 0=0:=by simp[List.getD,hy]
   rw[this]; simp
  |some y=>
   have h2:wsum ws j+y≤wsum ws i:=by rw[←wsum_step hy]; exact wsum_le (by omega)
   have h3:ws.getD j 0=y:=by simp[List.getD,hy]
   rw[h3]; omega
 ·have h2:wsum ws i+x≤wsum ws j:=by rw[←wsum_step h]; exact wsum_le (by omega)
  omega
theorem curP_step {s:List UInt8}{ws:List Nat}{i k x:Nat}{b:UInt8}(h:ws[i]?=some x) (hk:k<x) (hb:s[wsum ws i+k]?=some b):curP s ws (wsum ws i+k+1) i=curP s ws (wsum ws i+k) i+b.toNat*256 ^ k∧curP s ws (wsum ws i+k) i<256 ^ k:=by
 have h3:ws.getD i 0=x:=by simp[List.getD,h]
 have hl:(s.drop (wsum ws i))[k]?=some b:=by rw[List.getElem?_drop]; exact hb
 have hlen:((s.drop (wsum ws i)).take k).length=k:=by
  rw[List.length_take]
  have:=List.getElem?_eq_some_iff.1 hl
  obtain⟨h5,_⟩:=this
  omega
 unfold curP
 rw[h3,show min (wsum ws i+k+1-wsum ws i) x=k+1 by omega,show min (wsum ws i+k-wsum ws i) x=k by omega,List.take_add_one,hl]
 refine⟨?_,?_⟩
 ·show leN (_++[b])=_
  rw[leN_snoc,hlen]
 ·have:=leN_lt ((s.drop (wsum ws i)).take k)
  rwa [hlen]at this
theorem or64 {a b k:Nat}(ha:a<2 ^ k) (hs:a+b*2 ^ k<18446744073709551616):bits2 .or .u64 (a:Int) ((b*2 ^ k:Nat):Int)=((a+b*2 ^ k:Nat):Int):=by
 have e:∀n:Nat,BitVec.ofInt 64 (n:Int)=BitVec.ofNat 64 n:=fun n=>by simp
 have h0:bits2 .or .u64 (a:Int) ((b*2 ^ k:Nat):Int)=IntKind.u64.wrap (((BitVec.ofNat 64 a ||| BitVec.ofNat 64 (b*2 ^ k)).toNat:Nat):Int):=by
  unfold bits2
  simp only[IntKind.bits,e]
  rfl
 rw[h0,BitVec.toNat_or,BitVec.toNat_ofNat,BitVec.toNat_ofNat,Nat.mod_eq_of_lt (by omega),Nat.mod_eq_of_lt (by omega)]
 have h1:a ||| b*2 ^ k=a+b*2 ^ k:=by
  have:=Nat.shiftLeft_add_eq_or_of_lt ha b
  rw[Nat.shiftLeft_eq]at this
  rw[Nat.or_comm,←this,Nat.add_comm]
 rw[h1,wrapU64]
 omega
def intsN (ws:List Nat):List Value:=ws.map fun(x:Nat)=>.int .i64 (x:Int)
def u64s (ns:List Nat):List Value:=ns.map fun(x:Nat)=>.int .u64 (x:Int)
theorem ints_get {ws:List Nat}{i x:Nat}(h:ws[i]?=some x):(intsN ws)[i]?=some (.int .i64 (x:Int)):=by simp[intsN,h]
theorem u64s_get {ws:List Nat}{i x:Nat}(h:ws[i]?=some x):(u64s ws)[i]?=some (.int .u64 (x:Int)):=by simp[u64s,h]
def Wid (ws:List Nat):Prop:=ws.length≤64∧∀x∈ws,1≤x∧x≤8
theorem Wid.at {ws:List Nat}(h:Wid ws){i x:Nat}(hi:ws[i]?=some x):1≤x∧x≤8:=h.2 x (List.mem_of_getElem? hi)
theorem widsum_le:∀(ws:List Nat),(∀x∈ws,1≤x∧x≤8)→ws.sum≤8*ws.length
 |[],_=>by simp
 |w::ws,h=>by
  have:=widsum_le ws fun x hx=>h x (List.mem_cons_of_mem _ hx)
  have:=h w List.mem_cons_self
  simp only[List.sum_cons,List.length_cons]; omega
theorem Wid.sum {ws:List Nat}(h:Wid ws):ws.sum≤512:=by
 have h1:=widsum_le ws h.2
 have h2:=h.1
 omega
def readsW (w:World) (g:Option Nat) (ws:List Nat):Prop:=∀(j x:Nat),ws[j]?=some x→∃b,g=some b∧w.cell? ⟨b,j,none⟩=some (.int .i64 (x:Int))
theorem T.readsW {F:List Nat}{w0 w:World}{Γ:List A}{g:Option Nat}{n cap:Nat}{ws:List Nat}(hT:T F w0 w Γ) (hm:rowP 3 1 g n cap (intsN ws)∈Γ):readsW w g ws:=by
 intro j x hx
 have hs:=hT.says hm
 have hl:ws.length=n:=by have:=rowP.len hs; simpa[intsN] using this
 have hj:=(List.getElem?_eq_some_iff.1 hx).1
 obtain⟨b,rfl⟩:=rowP.pos hs (by omega)
 exact⟨b,rfl,rowP.cell hs (ints_get hx)⟩
theorem pksize_spec {ws:List Nat}(hv:Wid ws){w:World}{g:Option Nat}{cap:Nat}(hm:readsW w g ws):Ret Tp 150 #[.slice (ptr g) ws.length cap] w (.tuple #[.int .i64 (ws.sum:Int),.int .i64 0]):=by
 refine ret_of (pack_Size_calls ?_)
 unfold pack_Size
 have hs:=hv.sum
 have hl:=hv.1
 refine⟨fun vs w'=>w'=w∧∃i:Nat,vs=[.int .i64 (wsum ws i:Int),.int .i64 (i:Int)]∧i≤ws.length,fun vs _=>match vs with|[_,.int _ i]=>(ws.length-i).toNat|_=>0,⟨rfl,0,rfl,by omega⟩,?_⟩
 rintro vs w1 ⟨rfl,i,rfl,hi⟩
 refine⟨_,_,rfl,dec_t fun hlt=>?_,dec_f fun hge=>?_⟩
 ·have hlt:i<ws.length:=by omega
  obtain⟨b,rfl,hc⟩:=hm i ws[i] (by simp[hlt])
  have hx:=hv.at (i:=i) (x:=ws[i]) (by simp[hlt])
  have hst:=wsum_step (ws:=ws) (i:=i) (x:=ws[i]) (by simp[hlt])
  have hmx:=wsum_max (ws:=ws) (i+1)
  refine⟨_,rfl,by omega,by omega,(ws[i]:Int),by rw[addr_add,Nat.zero_add,Nat.mul_one,Int.toNat_natCast]; exact hc,no (decide_eq_false (by omega)) (no (decide_eq_false (by omega)) ⟨⟨rfl,i+1,?_,by omega⟩,?_⟩)⟩
  ·rw[wrap64 _ (by omega) (by omega),wrap64 _ (by omega) (by omega),hst]; simp
  ·show((ws.length:Int)-IntKind.i64.wrap ((i:Int)+1)).toNat<((ws.length:Int)-(i:Int)).toNat
   rw[wrap64 _ (by omega) (by omega)]; omega
 ·have hie:i=ws.length:=by omega
  subst hie
  rw[wsum_all ws (Nat.le_refl _)]
  exact no (decide_eq_false (by omega)) ⟨rfl,Ext.refl _⟩
theorem fits_spec (n x:Nat) (hn:n<256 ^ x) (hx:1≤x∧x≤8) (w:World):Ret Tp 195 #[.int .u64 (n:Int),.int .i64 (x:Int)] w (.bool true):=by
 refine ret_of (pack_Fits_calls ?_)
 unfold pack_Fits
 refine⟨fun _=>⟨rfl,Ext.refl w⟩,fun h8=>yes (decide_eq_true (by omega)) ?_⟩
 have h8:(x:Int)≠8:=by simpa using h8
 refine yes (decide_eq_true (by omega)) ⟨by rw[wrap64 _ (by omega) (by omega)]; omega,?_,Ext.refl w⟩
 rw[wrap64 _ (by omega) (by omega),show(8*(x:Int)).toNat=8*x by omega,Nat.min_eq_left (by omega),Int.fdiv_eq_ediv_of_nonneg _ (Int.le_of_lt (Int.pow_pos (by decide)))]
 have h1:n / 2 ^ (8*x)=0:=by
  rw[Nat.div_eq_of_lt]
  rw[Nat.pow_mul]; exact hn
 have h2:((n:Int) / 2 ^ (8*x))=((n / 2 ^ (8*x):Nat):Int):=by push_cast; rfl
 rw[h2,h1]
 rfl
def placeL:List Nat→Nat→List (Nat×Nat)
 |[],_=>[]
 |w::ws,i=>((List.range w).map fun k=>(i,8*k))++placeL ws (i+1)
theorem placeL_get:∀(ws:List Nat) (o i k x:Nat),ws[i]?=some x→k<x→(placeL ws o)[wsum ws i+k]?=some (o+i,8*k)
 |[],_,_,_,_,h,_=>by simp at h
 |w::ws,o,0,k,x,h,hk=>by
  simp only[List.getElem?_cons_zero,Option.some.injEq]at h
  subst h
  simp only[placeL,wsum_zero,Nat.zero_add]
  rw[List.getElem?_append_left (by simpa using hk)]
  simp[hk]
 |w::ws,o,i+1,k,x,h,hk=>by
  simp only[List.getElem?_cons_succ]at h
  simp only[placeL,wsum_cons]
  rw[List.getElem?_append_right (by simp; omega)]
  simp only[List.length_map,List.length_range]
  rw[show w+wsum ws i+k-w=wsum ws i+k by omega,placeL_get ws (o+1) i k x h hk]
  congr 2; omega
theorem placeL_inv:∀(ws:List Nat) (o m:Nat),m<ws.sum→∃i k x,ws[i]?=some x∧k<x∧m=wsum ws i+k
 |[],_,m,h=>by simp at h
 |w::ws,o,m,h=>by
  by_cases hm:m<w
  ·exact⟨0,m,w,rfl,hm,by simp[wsum]⟩
  ·simp only[List.sum_cons]at h
   obtain⟨i,k,x,h1,h2,h3⟩:=placeL_inv ws o (m-w) (by omega)
   exact⟨i+1,k,x,by simpa using h1,h2,by rw[wsum_cons]; omega⟩
def placeA (ws:List Nat) (m:Nat):List Value:=match (placeL ws 0)[m]? with|some (i,up)=>[.int .i64 (i:Int),.int .i64 (up:Int)]|none=>[]
theorem placeA_get {ws:List Nat}{i k x:Nat}(h:ws[i]?=some x) (hk:k<x):placeA ws (wsum ws i+k)=[.int .i64 (i:Int),.int .i64 ((8*k:Nat):Int)]:=by
 unfold placeA
 rw[placeL_get ws 0 i k x h hk,Nat.zero_add]
theorem places_spec {ws:List Nat}(hv:Wid ws){g:Option Nat}{cap:Nat}{k1:Addr}{yv:Value}{J:Nat→World→Prop}
  (hrd:∀m W,J m W→W.cell? k1=some (.slice (ptr g) ws.length cap)∧readsW W g ws)
  (hcall:∀m W,m<ws.sum→J m W→CallF Tp yv (placeA ws m) W fun e w'=>e=.returned (.bool true)∧J (m+1) w') (W:World) (h0:J 0 W):
  Calls Tp 200 #[yv,.pointer (some k1)] W fun e w'=>(∃v,e=.returned v)∧J ws.sum w':=by
 refine(pack_places_1_calls (R:=fun v w'=>J ws.sum w') ?_).mono fun e w' ⟨v,he,h⟩=>⟨⟨v,he⟩,h⟩
 unfold pack_places_1
 have hs:=hv.sum
 have hl:=hv.1
 refine⟨_,_,_,(hrd 0 W h0).1,?_⟩
 refine⟨fun vs w'=>∃i:Nat,vs=[.int .i64 (i:Int)]∧i≤ws.length∧J (wsum ws i) w',fun vs _=>match vs with|[.int _ i]=>(ws.length-i).toNat|_=>0,⟨0,rfl,by omega,h0⟩,?_⟩
 rintro vs w1 ⟨i,rfl,hi,hJ⟩
 refine⟨_,rfl,dec_t fun hlt=>?_,dec_f fun hge=>?_⟩
 ·have hlt:i<ws.length:=by omega
  have hx:ws[i]?=some ws[i]:=by simp[hlt]
  obtain⟨b,rfl,hc⟩:=(hrd _ _ hJ).2 i ws[i] hx
  have h8:=hv.at hx
  have hst:=wsum_step hx
  have hmx:=wsum_max (ws:=ws) (i+1)
  refine⟨_,rfl,by omega,by omega,(ws[i]:Int),by rw[addr_add,Nat.zero_add,Nat.mul_one,Int.toNat_natCast]; exact hc,?_⟩
  refine⟨fun vs w'=>∃k:Nat,vs=[.int .i64 (k:Int)]∧k≤ws[i]∧J (wsum ws i+k) w',fun vs _=>match vs with|[.int _ k]=>(ws[i]-k).toNat|_=>0,⟨0,rfl,by omega,hJ⟩,?_⟩
  rintro vs w2 ⟨k,rfl,hk,hJ2⟩
  refine⟨_,rfl,dec_t fun hkl=>?_,dec_f fun hkg=>?_⟩
  ·have hkl:k<ws[i]:=by omega
   have ha:[Value.int .i64 (i:Int),.int .i64 (IntKind.i64.wrap (8*(k:Int)))]=placeA ws (wsum ws i+k):=by
    rw[placeA_get hx hkl,wrap64 _ (by omega) (by omega)]
    push_cast; rfl
   rw[ha]
   have:=hcall (wsum ws i+k) w2 (by omega) hJ2
   refine CallF.mono this fun e w3 ⟨he,hJ3⟩=>⟨true,he,?_,?_⟩
   ·intro h; cases h
   ·intro _
    refine⟨⟨k+1,?_,by omega,hJ3⟩,?_⟩
    ·rw[wrap64 _ (by omega) (by omega)]; rfl
    ·show((ws[i]:Int)-IntKind.i64.wrap ((k:Int)+1)).toNat<((ws[i]:Int)-(k:Int)).toNat
     rw[wrap64 _ (by omega) (by omega)]; omega
  ·have hke:k=ws[i]:=by omega
   subst hke
   rw[←hst]at hJ2
   refine⟨⟨i+1,?_,by omega,hJ2⟩,?_⟩
   ·rw[wrap64 _ (by omega) (by omega)]; rfl
   ·show((ws.length:Int)-IntKind.i64.wrap ((i:Int)+1)).toNat<((ws.length:Int)-(i:Int)).toNat
    rw[wrap64 _ (by omega) (by omega)]; omega
 ·have hie:i=ws.length:=by omega
  subst hie
  rwa [wsum_all ws (Nat.le_refl _)]at hJ
theorem u64s_len (ns:List Nat):(u64s ns).length=ns.length:=List.length_map ..
theorem encP_take_step {ns ws:List Nat}{i k v x:Nat}(hw:ws[i]?=some x) (hn:ns[i]?=some v) (hk:k<x):(encP ns ws).take (wsum ws i+k+1)=(encP ns ws).take (wsum ws i+k)++[UInt8.ofNat (v / 2 ^ (8*k))]:=by
 rw[List.take_add_one,encP_get ns ws i k v x hw hn hk]; rfl
theorem encode_spec {ns ws:List Nat}(hv:Wid ws) (hl:ns.length=ws.length) (hf:∀(i n x:Nat),ns[i]?=some n→ws[i]?=some x→n<256 ^ x){F:List Nat}{w0 w:World}{Γ:List A}(hT:T F w0 w Γ){g1 g2:Option Nat}{n1 n2 c1 c2:Nat}(hn1:n1=ns.length) (hn2:n2=ws.length)
  (hm1:rowP 70 1 g1 n1 c1 (u64s ns)∈Γ) (hm2:rowP 3 1 g2 n2 c2 (intsN ws)∈Γ):
  Calls Tp 129 #[.slice (ptr g1) n1 c1,.slice (ptr g2) n2 c2] w fun e w'=>e=.returned (.tuple #[.string (strB (encP ns ws)),.int .i64 0])∧T F w0 w' Γ:=by
 subst hn1; subst hn2
 refine rq (pack_Encode_calls ?_)
 unfold pack_Encode
 have hs:=hv.sum
 have hw64:=hv.1
 refine Alloc.t hT fun k2 w1 h1=>?_
 refine(pksize_spec hv (T.readsW h1 (List.mem_cons_of_mem _ hm2))).mono fun e w2 ⟨he,hx⟩=>⟨_,_,he,no rfl ?_⟩
 have h2:=h1.quiet hx
 refine⟨_,_,_,h2.ld List.mem_cons_self rfl,no (by rw[hl]; simp) ?_⟩
 refine⟨fun vs w'=>∃i:Nat,vs=[.string (ByteArray.mk #[]),.int .i64 0,.int .i64 (i:Int)]∧i≤ws.length∧T F w0 w' (blk k2 #[.slice (ptr g1) ns.length c1] 155::Γ),fun vs _=>match vs with|[_,_,.int _ i]=>(ws.length-i).toNat|_=>0,⟨0,rfl,by omega,h2⟩,?_⟩
 rintro vs w3 ⟨i,rfl,hi,h3⟩
 refine⟨_,_,_,rfl,dec_t fun hlt=>?_,dec_f fun hge=>?_⟩
 ·have hlt:i<ws.length:=by omega
  have hx:ws[i]?=some ws[i]:=by simp[hlt]
  have hn:ns[i]?=some (ns[i]'(by omega)):=by simp[hl,hlt]
  obtain⟨b2,rfl,_,hc2⟩:=T.cell1 h3 (List.mem_cons_of_mem _ hm2) (ints_get hx)
  obtain⟨b1,rfl,_,hc1⟩:=T.cell1 h3 (List.mem_cons_of_mem _ hm1) (u64s_get hn)
  refine⟨_,rfl,by omega,by omega,_,by rw[Int.toNat_natCast]; exact hc2,_,_,_,h3.ld List.mem_cons_self rfl,_,rfl,by omega,by omega,_,by rw[Int.toNat_natCast]; exact hc1,?_⟩
  refine(fits_spec _ _ (hf i _ _ hn hx) (hv.at hx) w3).mono fun e w4 ⟨he,hx4⟩=>⟨_,he,fun h=>(by cases h),fun _=>⟨⟨i+1,?_,by omega,h3.quiet hx4⟩,?_⟩⟩
  ·rw[wrap64 _ (by omega) (by omega)]; rfl
  ·show((ws.length:Int)-IntKind.i64.wrap ((i:Int)+1)).toNat<((ws.length:Int)-(i:Int)).toNat
   rw[wrap64 _ (by omega) (by omega)]; omega
 ·obtain⟨k4,w5,hmk,h5⟩:=make_t (P:=Tp) (t:=86) (e:=5) (i:=Tryz.t5) (z:=.int .u8 0) (kl:=.i64) (kc:=.i64) (n:=0) (c:=(ws.sum:Int)) (by kernel_rfl) (by kernel_rfl) (by kernel_rfl) (by kernel_rfl) (by rfl) (by kernel_rfl) (by omega) (by omega) (by omega) h3
  simp only[Int.toNat_zero,Int.toNat_natCast]at hmk h5
  refine⟨_,_,_,w5,hmk,?_⟩
  refine Alloc.t h5 fun k10 w6 h6=>St.t h6 .head (by simp) (by rfl) rfl fun w7 h7=>?_
  refine(pack_places_calls (R:=fun v w'=>∃k1,v=.func (.func 200) #[] #[.pointer (some ⟨k1,0,none⟩)]∧T F w0 w' (blk k1 #[.slice (ptr g2) ws.length c2] 29::blk k10 #[.slice (ptr (some k4)) 0 ws.sum] 86::rowP 5 1 (some k4) 0 ws.sum []::blk k2 #[.slice (ptr g1) ns.length c1] 155::Γ)) ?_).mono ?_
  ·unfold pack_places
   exact Alloc.t h7 fun k1 w8 h8=>⟨k1,rfl,h8⟩
  ·rintro e w8 ⟨v,he,k1,rfl,h8⟩
   refine⟨_,he,?_⟩
   refine RangeP.t (by kernel_rfl) h8 (N:=ws.sum) (arg:=placeA ws)
    (Inv:=fun m Γm=>∃g cap,Γm=blk k1 #[.slice (ptr g2) ws.length c2] 29::blk k10 #[.slice (ptr g) m cap] 86::rowP 5 1 g m cap (bvals ((encP ns ws).take m))::blk k2 #[.slice (ptr g1) ns.length c1] 155::Γ)
    ⟨some k4,ws.sum,rfl⟩ ?_ ?_ ?_
   ·intro yv J hJ hc W hW
    refine places_spec hv (J:=J) (g:=g2) (cap:=c2) (fun m W hm=>?_) hc W hW
    obtain⟨Γk,x,y,⟨g,cap,rfl⟩,h⟩:=hJ m W hm
    exact⟨h.ld (List.mem_cons_of_mem _ (List.mem_cons_of_mem _ List.mem_cons_self)) rfl,T.readsW h (List.mem_cons_of_mem _ (List.mem_cons_of_mem _ (List.mem_cons_of_mem _ (List.mem_cons_of_mem _ (List.mem_cons_of_mem _ (List.mem_cons_of_mem _ hm2))))))⟩
   ·rintro obf l d m Γk W Φ hm ⟨g,cap,rfl⟩ hW hΦ
    obtain⟨i,k,x,hx,hk,rfl⟩:=placeL_inv ws 0 m hm
    have h8:=hv.at hx
    have hil:i<ws.length:=(List.getElem?_eq_some_iff.1 hx).1
    have hn:ns[i]?=some (ns[i]'(by omega)):=by simp[hl,hil]
    generalize ns[i]'(by omega)=v at hn
    rw[placeA_get hx hk]
    refine⟨_,_,rfl,?_⟩
    refine RoundP.t hW (G:=fun Γ'=>∃Γ'',Γ'=ob d (.deferred (some []))::Γ''∧∃g cap,Γ''=blk k1 #[.slice (ptr g2) ws.length c2] 29::blk k10 #[.slice (ptr g) (wsum ws i+k+1) cap] 86::rowP 5 1 g (wsum ws i+k+1) cap (bvals ((encP ns ws).take (wsum ws i+k+1)))::blk k2 #[.slice (ptr g1) ns.length c1] 155::Γ) ?_ ?_
    ·rintro Γ' w' ⟨Γ'',rfl,hi'⟩ h'
     exact hΦ Γ'' w' hi' h'
    ·intro K X R w9 h9 hK
     obtain⟨b1,rfl,_,_⟩:=T.cell1 h9 (List.mem_cons_of_mem _ (List.mem_cons_of_mem _ (List.mem_cons_of_mem _ (List.mem_cons_of_mem _ (List.mem_cons_of_mem _ (List.mem_cons_of_mem _ hm1)))))) (u64s_get hn)
     have hD:∀{w:World} {Γ':List A},T F w0 w Γ'→blk k10 #[.slice (ptr g) (wsum ws i+k) cap] 86∈Γ'→blk k2 #[.slice (ptr (some b1)) ns.length c1] 155∈Γ'→rowP 70 1 (some b1) ns.length c1 (u64s ns)∈Γ'→
       (w.cell? ⟨k10,0,none⟩=some (.slice (ptr g) (wsum ws i+k) cap)∧w.cell? ⟨k2,0,none⟩=some (.slice (ptr (some b1)) ns.length c1)∧w.cell? (Addr.add ⟨b1,0,none⟩ (i*1))=some (.int .u64 (v:Int))):=by
      intro w Γ' h m1 m2 m3
      obtain⟨b',hb',_,hc⟩:=T.cell1 h m3 (u64s_get hn)
      cases hb'
      exact⟨h.ld m1 rfl,h.ld m2 rfl,hc⟩
     have hbyte:IntKind.u8.wrap (Int.fdiv (v:Int) (2 ^ (min ((8*k:Nat):Int).toNat 64)))=((UInt8.ofNat (v / 2 ^ (8*k))).toNat:Int):=by
      rw[Int.toNat_natCast,Nat.min_eq_left (by omega),Int.fdiv_eq_ediv_of_nonneg _ (Int.le_of_lt (Int.pow_pos (by decide))),wrap8]
      have:((v:Int) / 2 ^ (8*k))=((v / 2 ^ (8*k):Nat):Int):=by push_cast; rfl
      rw[this]
      simp
     have hmx:=wsum_max (ws:=ws) (i+1)
     have hst:=wsum_step hx
     refine⟨fun w=>w.cell? ⟨k10,0,none⟩=some (.slice (ptr g) (wsum ws i+k) cap)∧w.cell? ⟨k2,0,none⟩=some (.slice (ptr (some b1)) ns.length c1)∧w.cell? (Addr.add ⟨b1,0,none⟩ (i*1))=some (.int .u64 (v:Int)),hD h9.drew (by repeat constructor) (by repeat constructor) (by repeat (first|exact hm1|refine List.mem_cons_of_mem _ ?_)),
      _,_,_,fun w h=>h.1,_,_,_,fun w h=>h.2.1,_,rfl,by omega,by omega,_,fun w h=>by rw[Int.toNat_natCast]; exact h.2.2,by omega,?_⟩
     rw[hbyte]
     refine Alloc.t h9.drew fun k57 w10 h10=>⟨hD h10 (by repeat constructor) (by repeat constructor) (by repeat (first|exact hm1|refine List.mem_cons_of_mem _ ?_)),?_⟩
     obtain⟨g',cap',w11,hr,h11⟩:=append_t (P:=Tp) (t:=86) (ty:=86) (e:=5) (i:=Tryz.t5) (z:=.int .u8 0) (size:=1) #[false,false] (by kernel_rfl) (by kernel_rfl) (by kernel_rfl) (by kernel_rfl) (by rfl)
      h10 (.tail (.tail (.tail (.tail (.tail .head))))) (a:=⟨k57,0,none⟩) (m:=1) (c:=1) (news:=bvals [UInt8.ofNat (v / 2 ^ (8*k))]) rfl (fun j u hu=>by
       rw[addr_add,Nat.zero_add]
       exact h10.ld (by repeat constructor) (by simpa[bvals] using hu)) (bvals_one _) (by simp only[maxLen]; omega)
      (by have:(Tryz.t5).bytes=1:=by kernel_rfl
          rw[this]; omega)
     rw[bvals_append,←encP_take_step hx hn hk]at h11
     refine⟨_,_,_,w11,hr,hD h11 (by repeat constructor) (by repeat constructor) (by repeat (first|exact hm1|refine List.mem_cons_of_mem _ ?_)),?_⟩
     refine St.t h11 (by repeat constructor) (by simp) (by rfl) rfl fun w12 h12=>hK (ob d (.deferred (some []))::_) w12 ⟨_,rfl,g',cap',rfl⟩ ?_
     exact(T.dropAt h12 (.tail .head)).swap (Pick.perm (.tail (.tail (.tail (.tail .head))))).symm
   ·rintro d Γ' w' ⟨g,cap,rfl⟩ h'
    rw[List.take_of_length_le (by rw[encP_len ns ws hl]; exact Nat.le_refl _)]at h'
    refine⟨_,_,_,h'.ld (by repeat constructor) rfl,_,w',row_string h' (by repeat constructor),?_⟩
    exact shut_mark (Q:=fun w2=>_=_∧T F w0 w2 Γ) h' fun w2 h2=>⟨rfl,h2.drop.drop.drop.drop⟩
def curL (s:List UInt8) (ws:List Nat) (m:Nat):List Nat:=(List.range ws.length).map (curP s ws m)
theorem curL_len (s:List UInt8) (ws:List Nat) (m:Nat):(curL s ws m).length=ws.length:=by simp[curL]
theorem curL_get (s:List UInt8) (ws:List Nat) (m:Nat){i:Nat}(hi:i<ws.length):(curL s ws m)[i]?=some (curP s ws m i):=by simp[curL,hi]
theorem curL_zero (s:List UInt8) (ws:List Nat):u64s (curL s ws 0)=List.replicate ws.length (Value.int .u64 0):=by
 unfold u64s curL
 rw[List.map_map]
 apply List.ext_getElem?
 intro j
 rw[List.getElem?_replicate]
 by_cases hj:j<ws.length
 ·simp[hj,curP_zero]
 ·simp[hj]
theorem curL_all (s:List UInt8) (ws:List Nat):curL s ws ws.sum=decP s ws:=by
 apply List.ext_getElem?
 intro j
 by_cases hj:j<ws.length
 ·have h:ws[j]?=some ws[j]:=by simp[hj]
  rw[curL_get s ws _ hj,decP_get ws s j _ h,curP_all s h]
 ·rw[List.getElem?_eq_none (by rw[curL_len]; omega),List.getElem?_eq_none (by rw[decP_len]; omega)]
theorem curL_step (s:List UInt8){ws:List Nat}{i k x:Nat}(h:ws[i]?=some x) (hk:k<x):(u64s (curL s ws (wsum ws i+k))).set i (.int .u64 (curP s ws (wsum ws i+k+1) i:Int))=u64s (curL s ws (wsum ws i+k+1)):=by
 have hi:=(List.getElem?_eq_some_iff.1 h).1
 apply List.ext_getElem?
 intro j
 rw[List.getElem?_set]
 by_cases hj:j<ws.length
 ·rw[u64s_get (curL_get s ws (wsum ws i+k+1) hj)]
  split
  ·rename_i e; subst e
   rw[if_pos (by rw[u64s_len,curL_len]; exact hi)]
  ·rename_i e
   rw[u64s_get (curL_get s ws (wsum ws i+k) hj),curP_other s h hk (fun e'=>e e'.symm)]
 ·rw[if_neg (by omega),List.getElem?_eq_none (by rw[u64s_len,curL_len]; omega),List.getElem?_eq_none (by rw[u64s_len,curL_len]; omega)]
theorem u64s_take (ws:List Nat) (n x:Nat) (h:ws[n]?=some x):u64s (ws.take n)++[.int .u64 (x:Int)]=u64s (ws.take (n+1)):=by
 unfold u64s
 rw[List.take_add_one,h]
 simp
theorem decode_spec {ws:List Nat}(hv:Wid ws){s:ByteArray}(hsz:s.size=ws.sum){F:List Nat}{w0 w:World}{Γ:List A}(hT:T F w0 w Γ){g2:Option Nat}{n2 c2:Nat}(hn2:n2=ws.length)
  (hm2:rowP 3 1 g2 n2 c2 (intsN ws)∈Γ):
  Calls Tp 81 #[.string s,.slice (ptr g2) n2 c2] w fun e w'=>∃b,e=.returned (.tuple #[.slice (ptr (some b)) ws.length ws.length,.int .i64 0])∧T F w0 w' (rowP 70 1 (some b) ws.length ws.length (u64s (decP s.data.toList ws))::Γ):=by
 subst hn2
 refine(pack_Decode_calls (R:=fun v w'=>∃b,v=.tuple #[.slice (ptr (some b)) ws.length ws.length,.int .i64 0]∧T F w0 w' (rowP 70 1 (some b) ws.length ws.length (u64s (decP s.data.toList ws))::Γ)) ?_).mono fun e w' ⟨v,he,b,hv,h⟩=>⟨b,by rw[he,hv],h⟩
 unfold pack_Decode
 have hs:=hv.sum
 have hw64:=hv.1
 have hlen:s.data.toList.length=ws.sum:=by rw[Array.length_toList]; exact hsz
 refine Alloc.t hT fun k2 w1 h1=>?_
 refine(pksize_spec hv (T.readsW h1 (List.mem_cons_of_mem _ hm2))).mono fun e w2 ⟨he,hx⟩=>⟨_,_,he,no rfl ?_⟩
 have h2:=h1.quiet hx
 refine⟨_,h2.ld List.mem_cons_self rfl,no (by rw[hsz]; simp) ?_⟩
 obtain⟨k5,w3,hmk,h3⟩:=make_t (P:=Tp) (t:=155) (e:=70) (i:=Tryz.t70) (z:=.int .u64 0) (kl:=.i64) (kc:=.i64) (n:=(ws.length:Int)) (c:=(ws.length:Int)) (by kernel_rfl) (by kernel_rfl) (by kernel_rfl) (by kernel_rfl) (by rfl) (by kernel_rfl) (by omega) (by omega) (by omega) h2
 simp only[Int.toNat_natCast]at hmk h3
 have h3:T F w0 w3 (rowP 70 1 (some k5) ws.length ws.length (u64s (curL s.data.toList ws 0))::blk k2 #[.string (strB (s.data.toList.drop 0))] 9::Γ):=by
  rw[curL_zero,List.drop_zero,strB_list]; exact h3
 refine⟨_,_,_,w3,hmk,?_⟩
 refine Alloc.t h3 fun k8 w4 h4=>St.t h4 .head (by simp) (by rfl) rfl fun w5 h5=>?_
 refine(pack_places_calls (R:=fun v w'=>∃k1,v=.func (.func 200) #[] #[.pointer (some ⟨k1,0,none⟩)]∧T F w0 w' (blk k1 #[.slice (ptr g2) ws.length c2] 29::blk k8 #[.slice (ptr (some k5)) ws.length ws.length] 155::rowP 70 1 (some k5) ws.length ws.length (u64s (curL s.data.toList ws 0))::blk k2 #[.string (strB (s.data.toList.drop 0))] 9::Γ)) ?_).mono ?_
 ·unfold pack_places
  exact Alloc.t h5 fun k1 w8 h8=>⟨k1,rfl,h8⟩
 ·rintro e w8 ⟨v,he,k1,rfl,h8⟩
  refine⟨_,he,?_⟩
  refine RangeP.t (by kernel_rfl) h8 (N:=ws.sum) (arg:=placeA ws)
   (Inv:=fun m Γm=>Γm=blk k1 #[.slice (ptr g2) ws.length c2] 29::blk k8 #[.slice (ptr (some k5)) ws.length ws.length] 155::rowP 70 1 (some k5) ws.length ws.length (u64s (curL s.data.toList ws m))::blk k2 #[.string (strB (s.data.toList.drop m))] 9::Γ)
   rfl ?_ ?_ ?_
  ·intro yv J hJ hc W hW
   refine places_spec hv (J:=J) (g:=g2) (cap:=c2) (fun m W hm=>?_) hc W hW
   obtain⟨Γk,x,y,rfl,h⟩:=hJ m W hm
   exact⟨h.ld (by repeat constructor) rfl,T.readsW h (by repeat (first|exact hm2|refine List.mem_cons_of_mem _ ?_))⟩
  ·rintro obf l d m Γk W Φ hm rfl hW hΦ
   obtain⟨i,k,x,hx,hk,rfl⟩:=placeL_inv ws 0 m hm
   have hx8:=hv.at hx
   have hil:i<ws.length:=(List.getElem?_eq_some_iff.1 hx).1
   rw[placeA_get hx hk]
   refine⟨_,_,rfl,?_⟩
   refine RoundP.t hW (G:=fun Γ'=>Γ'=ob d (.deferred (some []))::blk k1 #[.slice (ptr g2) ws.length c2] 29::blk k8 #[.slice (ptr (some k5)) ws.length ws.length] 155::rowP 70 1 (some k5) ws.length ws.length (u64s (curL s.data.toList ws (wsum ws i+k+1)))::blk k2 #[.string (strB (s.data.toList.drop (wsum ws i+k+1)))] 9::Γ) ?_ ?_
   ·rintro Γ' w' rfl h'
    exact hΦ _ w' rfl h'
   ·intro K X R w9 h9 hK
    have hb:s.data.toList[wsum ws i+k]?=some (s.data.toList[wsum ws i+k]'(by omega)):=by simp[hlen,hm]
    generalize s.data.toList[wsum ws i+k]'(by omega)=b at hb
    have hd0:(s.data.toList.drop (wsum ws i+k)).getD 0 0=b:=by simp[List.getD,hb]
    have hdl:(strB (s.data.toList.drop (wsum ws i+k))).size=ws.sum-(wsum ws i+k):=by rw[strB_size,List.length_drop,hlen]
    obtain⟨hst,hlt⟩:=curP_step hx hk hb
    have hbb:=b.toNat_lt
    have hp:(256:Nat) ^ k=2 ^ (8*k):=by rw[Nat.pow_mul]
    rw[hp]at hst hlt
    have hval:curP s.data.toList ws (wsum ws i+k) i+b.toNat*2 ^ (8*k)<18446744073709551616:=by
     have h1:b.toNat*2 ^ (8*k)≤255*2 ^ (8*k):=Nat.mul_le_mul_right _ (by omega)
     have h2:(2:Nat) ^ (8*k)≤2 ^ 56:=Nat.pow_le_pow_right (by decide) (by omega)
     have h3:(2:Nat) ^ 56=72057594037927936:=by decide
     omega
    have hwr:IntKind.u64.wrap (IntKind.u64.wrap ((b.toNat:Nat):Int)*2 ^ (min ((8*k:Nat):Int).toNat 64))=((b.toNat*2 ^ (8*k):Nat):Int):=by
     rw[Int.toNat_natCast,Nat.min_eq_left (by omega)]
     have e1:IntKind.u64.wrap ((b.toNat:Nat):Int)=((b.toNat:Nat):Int):=by rw[wrapU64]; omega
     have e2:((b.toNat:Nat):Int)*2 ^ (8*k)=((b.toNat*2 ^ (8*k):Nat):Int):=by push_cast; rfl
     rw[e1,e2,wrapU64]; omega
    have hor:=or64 hlt hval
    refine⟨fun w=>T F w0 w _,h9.drew,_,_,_,fun w h=>h.ld (by repeat constructor) rfl,_,rfl,by omega,by omega,(curP s.data.toList ws (wsum ws i+k) i:Int),fun w h=>?_,_,fun w h=>h.ld (by repeat constructor) rfl,((b.toNat:Nat):Int),fun w h=>?_,by omega,_,rfl,by omega,by omega,?_⟩
    ·obtain⟨b',hb',_,hc⟩:=T.cell1 h (e:=70) (g:=some k5) (n:=ws.length) (cap:=ws.length) (i:=i) (by repeat constructor) (u64s_get (curL_get s.data.toList ws (wsum ws i+k) hil))
     cases hb'
     rw[Int.toNat_natCast]; exact hc
    ·have:=index_str (P:=Tp) (t:=9) (k:=.i64) (n:=0) (s:=strB (s.data.toList.drop (wsum ws i+k))) (w:=w) (by kernel_rfl) (by omega) (by rw[hdl]; omega)
     rw[this]
     congr 4
    ·rw[hwr,hor,←hst,Int.toNat_natCast,addr_add,Nat.zero_add,Nat.mul_one]
     refine StRow.t h9.drew (.tail (.tail (.tail (.tail .head)))) (by rw[u64s_len,curL_len]; exact hil) rfl fun w10 h10=>?_
     rw[curL_step s.data.toList hx hk]at h10
     refine⟨_,h10.ld (by repeat constructor) rfl,_,_,slice_from (by kernel_rfl) (by omega) (by rw[hdl]; omega),?_⟩
     have hex:(strB (s.data.toList.drop (wsum ws i+k))).extract (1:Int).toNat (strB (s.data.toList.drop (wsum ws i+k))).size=strB (s.data.toList.drop (wsum ws i+k+1)):=by
      rw[strB_extract,strB_size,List.drop_drop,List.take_of_length_le (by simp; omega)]
      rfl
     rw[hex]
     refine St.t h10 (by repeat constructor) (by simp) (by rfl) rfl fun w11 h11=>hK _ w11 rfl ?_
     exact h11.swap (Pick.perm (.tail (.tail (.tail (.tail .head))))).symm
  ·rintro d Γ' w' rfl h'
   rw[curL_all]at h'
   refine⟨_,_,_,h'.ld (by repeat constructor) rfl,?_⟩
   refine shut_mark (Q:=fun w2=>∃b,(Value.tuple #[.slice (ptr (some k5)) ws.length ws.length,.int .i64 0])=.tuple #[.slice (ptr (some b)) ws.length ws.length,.int .i64 0]∧T F w0 w2 (rowP 70 1 (some b) ws.length ws.length (u64s (decP s.data.toList ws))::Γ)) h' fun w2 h2=>⟨k5,rfl,T.dropAt h2.drop.drop (.tail .head)⟩
structure RP where
 col:Int
 off:Int
 data:List UInt8
deriving DecidableEq
def rpC (x:RP):Array Value:=#[.int .i64 x.col,.int .i64 x.off,.string (strB x.data)]
def rpL (l:List RP):List Value:=l.flatMap fun x=>(rpC x).toList
theorem rpL_len (l:List RP):(rpL l).length=l.length*3:=by
 induction l with
 |nil=>rfl
 |cons x l ih=>simp[rpL,rpC]at ih⊢; omega
theorem rpL_get {l:List RP}{j:Nat}{x:RP}(h:l[j]?=some x){m:Nat}{v:Value}(hv:(rpC x)[m]?=some v):(rpL l)[j*3+m]?=some v:=by
 have hm:m<3:=(Array.getElem?_eq_some_iff.1 hv).1
 induction l generalizing j with
 |nil=>simp at h
 |cons y l ih=>
  have e:rpL (y::l)=(rpC y).toList++rpL l:=rfl
  rw[e]
  cases j with
  |zero=>
   obtain rfl:y=x:=by simpa using h
   rw[Nat.zero_mul,Nat.zero_add,List.getElem?_append_left (by show m<3; exact hm)]
   simpa using hv
  |succ j=>
   rw[List.getElem?_append_right (by show 3≤_; omega)]
   have:(j+1)*3+m-(rpC y).toList.length=j*3+m:=by show(j+1)*3+m-3=_; omega
   rw[this]
   exact ih (by simpa using h)
def partsAt (w:World) (p:Option Addr) (l:List RP):Prop:=(l≠[]→∃a,p=some a)∧∀a,p=some a→∀(j:Nat) (x:RP),l[j]?=some x→∀(m:Nat) (v:Value),(rpC x)[m]?=some v→w.cell? ((a.add (j*3)).add m)=some v
theorem partsAt.ext {w w':World}{p:Option Addr}{l:List RP}(h:partsAt w p l) (hx:Ext w w'):partsAt w' p l:=⟨h.1,fun a ha j x hj m v hv=>cell_ext hx (h.2 a ha j x hj m v hv)⟩
theorem partsAt.get {w:World}{p:Option Addr}{l:List RP}(h:partsAt w p l){n:Nat}(hn:n<l.length):∃a,p=some a∧w.cell? (a.add (n*3))=some (.int .i64 (l[n]).col)∧w.cell? ((a.add (n*3)).add 1)=some (.int .i64 (l[n]).off)∧w.cell? ((a.add (n*3)).add 2)=some (.string (strB (l[n]).data)):=by
 obtain⟨a,rfl⟩:=h.1 (fun e=>by rw[e]at hn; simp at hn)
 have h2:=h.2 a rfl n l[n] (List.getElem?_eq_getElem hn)
 refine⟨a,rfl,?_,h2 1 _ rfl,h2 2 _ rfl⟩
 have:=h2 0 _ rfl
 have hz:∀b:Addr,b.add 0=b:=fun b=>by simp[Addr.add]
 rw[hz]at this; exact this
theorem T.parts {F:List Nat}{w0 w:World}{Γ:List A}{g:Option Nat}{n cap:Nat}{l:List RP}(hT:T F w0 w Γ) (hm:rowP 64 3 g n cap (rpL l)∈Γ):partsAt w (ptr g) l∧l.length=n∧n≤cap:=by
 have hh:=hT.says hm
 have hn:l.length=n:=by have:=rowP.len hh; rw[rpL_len]at this; omega
 refine⟨⟨fun hne=>?_,fun a ha j x hj m v hv=>?_⟩,hn,hh.2.1⟩
 ·have:0<l.length:=List.length_pos_iff.2 hne
  obtain⟨b,rfl⟩:=rowP.pos hh (by omega)
  exact⟨_,rfl⟩
 ·cases g with
  |none=>cases ha
  |some b=>
   cases ha
   rw[addr_add,addr_add,Nat.zero_add]
   exact rowP.cell hh (rpL_get hj hv)
def PlacedR (row:Int) (l:List RP):Prop:=0≤row∧row<256∧1≤l.length∧l.length≤40∧(∀x∈l,0≤x.col∧x.col<10∧0≤x.off∧x.off<4)∧(l.map fun x=>(x.col,x.off)).Nodup
def LoadedR (l:List RP):Prop:=∀x∈l,x.data.length=64
instance (row:Int) (l:List RP):Decidable (PlacedR row l):=by unfold PlacedR; infer_instance
instance (l:List RP):Decidable (LoadedR l):=by unfold LoadedR; infer_instance
def rcC (seq:Nat) (row:Int) (p:Option Addr) (n c:Nat):Array Value:=#[.int .u64 (seq:Int),.int .i64 row,.slice p n c]
theorem St3.t {F:List Nat}{w0 w:World}{Γ:List A}{k:Nat}{t:TypeId}{y:RP}{K:World→Prop}(hT:T F w0 w (blk k #[.int .i64 0,.int .i64 0,.string (ByteArray.mk #[])] t::Γ)) (hK:∀w',T F w0 w' (blk k (rpC y) t::Γ)→K w'):
  St ⟨k,0,none⟩ (.int .i64 y.col) w fun w1=>St ⟨k,1,none⟩ (.int .i64 y.off) w1 fun w2=>St ⟨k,2,none⟩ (.string (strB y.data)) w2 K:=
 St.t (c':=#[.int .i64 y.col,.int .i64 0,.string (ByteArray.mk #[])]) hT .head (show 0<3 by decide) rfl rfl fun w1 h1=>St.t (c':=#[.int .i64 y.col,.int .i64 y.off,.string (ByteArray.mk #[])]) h1 .head (show 1<3 by decide) rfl rfl fun w2 h2=>St.t (c':=rpC y) h2 .head (show 2<3 by decide) rfl rfl hK
theorem map_take_next {l:List RP}{i:Nat}(h:i<l.length):(l.take (i+1)).map (fun x=>(x.col,x.off))=(l.take i).map (fun x=>(x.col,x.off))++[((l[i]).col,(l[i]).off)]:=by
 rw[List.take_add_one,List.getElem?_eq_getElem h,List.map_append]; rfl
theorem placed_spec {seq:Nat}{row:Int}{p:Option Addr}{c:Nat}{l:List RP}{w:World}(H:partsAt w p l) (hl:l.length≤1000000):Ret Tp 201 #[.agg (rcC seq row p l.length c)] w (.bool (decide (PlacedR row l))):=by
 refine ret_of (record_Record_placed_calls ?_)
 unfold record_Record_placed
 refine Alloc.t (T.nil w) fun k1 w1 h1=>?_
 have bad:∀{w':World},Ext w w'→¬PlacedR row l→RetR w (.bool (decide (PlacedR row l))) (.bool false) w':=fun hx hn=>⟨by rw[decide_eq_false hn],hx⟩
 refine⟨_,h1.ld (b:=k1) (i:=1) (by repeat constructor) rfl,dec_t fun h=>bad h1.chg.ext (fun hp=>by have:=hp.1; omega),dec_f fun r0=>?_⟩
 refine⟨_,h1.ld (b:=k1) (i:=1) (by repeat constructor) rfl,dec_t fun h=>bad h1.chg.ext (fun hp=>by have:=hp.2.1; omega),dec_f fun r256=>?_⟩
 refine⟨_,_,_,h1.ld (b:=k1) (i:=2) (by repeat constructor) rfl,beq_t fun h=>bad h1.chg.ext (fun hp=>by have:=hp.2.2.1; omega),beq_f fun l0=>?_⟩
 refine⟨_,_,_,h1.ld (b:=k1) (i:=2) (by repeat constructor) rfl,dec_t fun h=>bad h1.chg.ext (fun hp=>by have:=hp.2.2.2.1; omega),dec_f fun l40=>?_⟩
 refine AllocM.t h1 fun k27 w2 h2=>⟨_,_,_,h2.ld (b:=k1) (i:=2) (by repeat constructor) rfl,?_⟩
 have h2:T [] w w2 (mapPr k27 []::[blk k1 (rcC seq row p l.length c) 75]):=h2
 refine⟨fun vs w'=>∃i:Nat,vs=[.int .i64 (i:Int)]∧i≤l.length∧(∀x∈l.take i,0≤x.col∧x.col<10∧0≤x.off∧x.off<4)∧((l.take i).map fun x=>(x.col,x.off)).Nodup∧T [] w w' (mapPr k27 ((l.take i).map fun x=>(x.col,x.off))::[blk k1 (rcC seq row p l.length c) 75]),fun vs _=>match vs with|[.int _ i]=>(l.length-i).toNat|_=>0,⟨0,rfl,by omega,by simp,by simp,h2⟩,?_⟩
 rintro vs w3 ⟨i,rfl,hi,hr,hnd,h3⟩
 refine⟨_,rfl,dec_t fun hlt=>?_,dec_f fun hge=>?_⟩
 ·have hlt:i<l.length:=by omega
  obtain⟨a,rfl,c0,c1,c2⟩:=(H.ext h3.chg.ext).get hlt
  have hmem:l[i]∈l:=List.getElem_mem hlt
  have hms:((l.length:Int)-IntKind.i64.wrap ((i:Int)+1)).toNat<((l.length:Int)-(i:Int)).toNat:=by rw[wrap64 _ (by omega) (by omega)]; omega
  have hnx:IntKind.i64.wrap ((i:Int)+1)=((i+1:Nat):Int):=by rw[wrap64 _ (by omega) (by omega)]; omega
  have hnext:=map_take_next hlt
  generalize hx:l[i]=x at c0 c1 c2 hmem hnext
  refine⟨a,rfl,by omega,by omega,x.col,x.off,strB x.data,⟨by rw[Int.toNat_natCast]; exact c0,by rw[Int.toNat_natCast]; exact c1,by rw[Int.toNat_natCast]; exact c2⟩,?_⟩
  refine Alloc.t h3 fun k5 w4 h4=>St3.t h4 fun w7 h7=>⟨_,h7.ld (b:=k5) (c:=rpC x) (by repeat constructor) rfl,_,h7.ld (b:=k5) (c:=rpC x) (i:=1) (by repeat constructor) rfl,?_⟩
  refine Alloc.t h7 fun k6 w8 h8=>St.t (c:=#[.int .i64 0,.int .i64 0]) (c':=#[.int .i64 x.col,.int .i64 0]) h8 .head (show 0<2 by decide) rfl rfl fun w9 h9=>St.t (c':=#[.int .i64 x.col,.int .i64 x.off]) h9 .head (show 1<2 by decide) rfl rfl fun w10 h10=>?_
  refine⟨_,h10.ld (b:=k5) (c:=rpC x) (by repeat constructor) rfl,dec_t fun h=>bad h10.chg.ext (fun hp=>by have:=hp.2.2.2.2.1 x hmem; omega),dec_f fun q1=>?_⟩
  refine⟨_,h10.ld (b:=k5) (c:=rpC x) (by repeat constructor) rfl,dec_t fun h=>bad h10.chg.ext (fun hp=>by have:=hp.2.2.2.2.1 x hmem; omega),dec_f fun q2=>?_⟩
  refine⟨_,h10.ld (b:=k5) (c:=rpC x) (i:=1) (by repeat constructor) rfl,dec_t fun h=>bad h10.chg.ext (fun hp=>by have:=hp.2.2.2.2.1 x hmem; omega),dec_f fun q3=>?_⟩
  refine⟨_,h10.ld (b:=k5) (c:=rpC x) (i:=1) (by repeat constructor) rfl,dec_t fun h=>bad h10.chg.ext (fun hp=>by have:=hp.2.2.2.2.1 x hmem; omega),dec_f fun q4=>?_⟩
  refine⟨_,_,⟨h10.ld (b:=k6) (by repeat constructor) rfl,h10.ld (b:=k6) (i:=1) (by repeat constructor) rfl⟩,_,w10,lookup_pr h10 (k:=(x.col,x.off)) (b:=k27) (l:=(l.take i).map fun x=>(x.col,x.off)) (by repeat constructor),?_⟩
  by_cases hin:(x.col,x.off)∈(l.take i).map fun x=>(x.col,x.off)
  ·refine yes (decide_eq_true hin) (bad h10.chg.ext fun hp=>?_)
   have hd:=hp.2.2.2.2.2
   have h1:((l.take (i+1)).map fun x=>(x.col,x.off)).Nodup:=List.Nodup.sublist ((List.take_sublist _ _).map _) hd
   rw[hnext,List.nodup_append]at h1
   exact h1.2.2 _ hin _ List.mem_cons_self rfl
  ·refine no (decide_eq_false hin) ⟨_,_,⟨h10.ld (b:=k6) (by repeat constructor) rfl,h10.ld (b:=k6) (i:=1) (by repeat constructor) rfl⟩,?_⟩
   obtain⟨w12,hr12,h12⟩:=update_pr h10 hin (Γ':=_) (.tail (.tail .head))
   refine⟨w12,hr12,⟨i+1,by rw[hnx],by omega,fun y hy=>?_,?_,?_⟩,hms⟩
   ·rw[List.take_add_one,List.getElem?_eq_getElem hlt]at hy
    rcases List.mem_append.1 hy with hy|hy
    ·exact hr y hy
    ·have:y=x:=by rw[hx]at hy; simpa using hy
     rw[this]; omega
   ·rw[hnext,List.nodup_append]
    exact⟨hnd,by simp,fun u hu v hv e=>by
     have:v=(x.col,x.off):=by simpa using hv
     rw[e,this]at hu
     exact hin hu⟩
   ·rw[hnext]
    exact T.drop (T.drop h12)
 ·have hie:i=l.length:=by omega
  subst hie
  rw[List.take_length]at hr hnd
  exact⟨by rw[decide_eq_true ⟨by omega,by omega,by omega,by omega,hr,hnd⟩],h3.chg.ext⟩
theorem loaded_spec {seq:Nat}{row:Int}{p:Option Addr}{c:Nat}{l:List RP}{w:World}(H:partsAt w p l) (hl:l.length≤1000000):Ret Tp 202 #[.agg (rcC seq row p l.length c)] w (.bool (decide (LoadedR l))):=by
 refine ret_of (record_Record_loaded_calls ?_)
 unfold record_Record_loaded
 refine Alloc.t (T.nil w) fun k1 w1 h1=>⟨_,_,_,h1.ld (b:=k1) (i:=2) (by repeat constructor) rfl,?_⟩
 refine⟨fun vs w'=>∃i:Nat,vs=[.int .i64 (i:Int)]∧i≤l.length∧(∀x∈l.take i,x.data.length=64)∧Ext w w',fun vs _=>match vs with|[.int _ i]=>(l.length-i).toNat|_=>0,⟨0,rfl,by omega,by simp,h1.chg.ext⟩,?_⟩
 rintro vs w3 ⟨i,rfl,hi,hr,hx3⟩
 refine⟨_,rfl,dec_t fun hlt=>?_,dec_f fun hge=>?_⟩
 ·have hlt:i<l.length:=by omega
  obtain⟨a,rfl,c0,c1,c2⟩:=(H.ext hx3).get hlt
  have hmem:l[i]∈l:=List.getElem_mem hlt
  generalize hx:l[i]=x at c0 c1 c2 hmem
  refine⟨a,rfl,by omega,by omega,x.col,x.off,strB x.data,⟨by rw[Int.toNat_natCast]; exact c0,by rw[Int.toNat_natCast]; exact c1,by rw[Int.toNat_natCast]; exact c2⟩,?_⟩
  refine Alloc.t ((T.nil w).quiet hx3) fun k4 w4 h4=>St3.t h4 fun w7 h7=>⟨_,h7.ld (b:=k4) (c:=rpC x) (i:=2) (by repeat constructor) rfl,bne_t fun hne=>?_,bne_f fun heq=>⟨⟨i+1,?_,by omega,fun y hy=>?_,h7.chg.ext⟩,?_⟩⟩
  ·rw[strB_size]at hne
   exact⟨by rw[decide_eq_false fun hp=>by have:=hp x hmem; omega],h7.chg.ext⟩
  ·rw[wrap64 _ (by omega) (by omega)]; rfl
  ·rw[strB_size]at heq
   rw[List.take_add_one,List.getElem?_eq_getElem hlt]at hy
   rcases List.mem_append.1 hy with hy|hy
   ·exact hr y hy
   ·have:y=x:=by rw[hx]at hy; simpa using hy
    rw[this]; omega
  ·show((l.length:Int)-IntKind.i64.wrap ((i:Int)+1)).toNat<((l.length:Int)-(i:Int)).toNat
   rw[wrap64 _ (by omega) (by omega)]; omega
 ·have hie:i=l.length:=by omega
  subst hie
  rw[List.take_length]at hr
  exact⟨by rw[decide_eq_true (p:=LoadedR l) hr],hx3⟩
theorem rmay12_spec {seq:Nat}{row:Int}{p:Option Addr}{c:Nat}{l:List RP}{w:World}(H:partsAt w p l) (hl:l.length≤1000000):Ret Tp 175 #[.agg (rcC seq row p l.length c)] w (.bool (decide (PlacedR row l)&&decide (LoadedR l))):=by
 refine ret_of (record_May_calls ?_)
 unfold record_May
 refine Alloc.t (T.nil w) fun k1 w1 h1=>⟨_,_,_,_,_,⟨h1.ld (b:=k1) (c:=rcC seq row p l.length c) (by repeat constructor) rfl,h1.ld (b:=k1) (c:=rcC seq row p l.length c) (i:=1) (by repeat constructor) rfl,h1.ld (b:=k1) (c:=rcC seq row p l.length c) (i:=2) (by repeat constructor) rfl⟩,?_⟩
 refine(placed_spec (seq:=seq) (c:=c) (H.ext h1.chg.ext) hl).mono fun e w2 ⟨he,hx2⟩=>⟨_,he,fun hp=>?_,fun hp=>⟨by rw[hp]; rfl,h1.chg.ext.trans hx2⟩⟩
 have h2:=h1.quiet hx2
 refine⟨_,_,_,_,_,⟨h2.ld (b:=k1) (c:=rcC seq row p l.length c) (by repeat constructor) rfl,h2.ld (b:=k1) (c:=rcC seq row p l.length c) (i:=1) (by repeat constructor) rfl,h2.ld (b:=k1) (c:=rcC seq row p l.length c) (i:=2) (by repeat constructor) rfl⟩,?_⟩
 exact(loaded_spec (seq:=seq) (row:=row) (c:=c) (H.ext h2.chg.ext) hl).mono fun e w3 ⟨he,hx3⟩=>⟨_,he,by rw[hp,Bool.true_and],h2.chg.ext.trans hx3⟩
def zB (l:Txt):Bool:=l.all fun x=>x==0
section
variable {F:List Nat}{w0:World}{Γ:List A}{l:Txt}{n k2 k3:Nat}{yv:Value}{x y:A}
end
theorem zB_iff (l:Txt):zB l=true↔∀j,j<l.length→l.getD j 0=0:=by
 unfold zB
 rw[List.all_eq_true]
 constructor
 ·intro hA j hj
  have:=hA l[j] (List.getElem_mem hj)
  simpa[List.getD,hj] using this
 ·intro hA x hx
  obtain⟨j,hj,rfl⟩:=List.getElem_of_mem hx
  have:=hA j hj
  simpa[List.getD,hj] using this
theorem synP_zero (L:List Txt) (j:Nat):(synP L).getD j 0=0↔PRel (col L j) (L.length-2):=by
 rw[synP_col,UInt8.xor_eq_zero_iff]
 exact⟨fun h=>h.symm,fun h=>h.symm⟩
theorem synQ_zero (L:List Txt) (h2:2≤L.length) (j:Nat):(synQ L).getD j 0=0↔QRel (col L j) (L.length-2):=by
 rw[synQ_col,UInt8.xor_eq_zero_iff,←show L.length-2+1=L.length-1 by omega]
 exact⟨fun h=>h.symm,fun h=>h.symm⟩
theorem zP_iff {L:List Txt}{m:Nat}(h:AllLen L m) (h3:3≤L.length):zB (synP L)=true↔∀j,j<m→PRel (col L j) (L.length-2):=by
 rw[zB_iff,synP_all h h3]
 exact⟨fun hh j hj=>(synP_zero L j).1 (hh j hj),fun hh j hj=>(synP_zero L j).2 (hh j hj)⟩
theorem zQ_iff {L:List Txt}{m:Nat}(h:AllLen L m) (h3:3≤L.length):zB (synQ L)=true↔∀j,j<m→QRel (col L j) (L.length-2):=by
 rw[zB_iff,synQ_all h h3]
 exact⟨fun hh j hj=>(synQ_zero L (by omega) j).1 (hh j hj),fun hh j hj=>(synQ_zero L (by omega) j).2 (hh j hj)⟩
theorem make_good {R:List Txt}{m:Nat}(h:AllLen R m) (h2:2≤R.length) (h8:R.length≤8):GoodL (makeF R) m:=by
 have hp:∀j,PRel (col (makeF R) j) R.length∧QRel (col (makeF R) j) R.length:=fun j=>by
  have hc:∀c,c<R.length→col (makeF R) j c=col R j c:=fun c hc=>by unfold col; rw[makeF_get,if_pos hc]
  have hp:col (makeF R) j R.length=(sumT R).getD j 0:=by unfold col; rw[makeF_get,if_neg (by omega),if_pos rfl]
  have hq:col (makeF R) j (R.length+1)=(qT R).getD j 0:=by unfold col; rw[makeF_get,if_neg (by omega),if_neg (by omega),if_pos rfl]
  constructor
  ·unfold PRel
   rw[hp,sx_congr hc]
   exact sAcc_col R j _
  ·unfold QRel
   have:sx (wq (col (makeF R) j)) R.length=sx (wq (col R j)) R.length:=sx_congr fun c h=>congrArg (xp c) (hc c h)
   rw[hq,this]
   exact qAcc_col R j _
 refine⟨by rw[makeF_len]; omega,by rw[makeF_len]; omega,makeF_all h (by omega),fun j _=>?_⟩
 rw[makeF_len,show R.length+2-2=R.length by omega]
 exact hp j
theorem GoodL.goodF {L:List Txt}{m:Nat}(h:GoodL L m):goodF L=true:=by
 have h1:=(zP_iff h.all (by have:=h.n4; omega)).2 fun j hj=>(h.rel j hj).1
 have h2:=(zQ_iff h.all (by have:=h.n4; omega)).2 fun j hj=>(h.rel j hj).2
 unfold zB at h1 h2
 unfold Go.Proofs.YtkknkmplmilihaaGreat.goodF
 rw[h1,h2]; rfl
theorem role_colR {s:RwS}(hG:OkG s.c s.k s.r){row role col:Int}(hr:0≤row∧row<s.r) (h0:0≤role∧role<s.c) (hc:0≤col∧col<s.c):roleG s.c s.k s.r row col=role↔col=colR s row role:=by
 have hf:0≤firstG s.c row∧firstG s.c row<s.c:=⟨Int.emod_nonneg _ (by have:=hG.1; omega),Int.emod_lt_of_pos _ (by have:=hG.1; omega)⟩
 rw[role_v (inG_of hG hr hc),colR_v hG hr h0]
 split<;>(try split)<;>(try split)<;>omega
def OkC (s:RwS) (ds:List Od) (bu:List Int) (l:List RP):Prop:=RMay s ds bu∧(∀x∈l,(0≤x.col∧x.col<s.c-2)∧(0≤x.off∧x.off<s.k)∧x.data.length=64)∧(l.map fun x=>(x.off,x.col)).Nodup
instance (s:RwS) (ds:List Od) (bu:List Int) (l:List RP):Decidable (OkC s ds bu l):=by unfold OkC; infer_instance
def chgL (l:List RP) (off:Int) (L:List Txt) (n:Nat):List Txt:=(List.range n).map fun i:Nat=>match l.find? (fun x=>x.off==off&&x.col==(i:Int)) with
 |some x=>x.data
 |none=>L.getD i []
def rowF (l:List RP) (off:Int) (L:List Txt):List Txt:=makeF (chgL l off L (L.length-2))
def wantB (l:List RP) (off:Int) (n:Nat) (lost:List Int) (r:Nat):Bool:=decide (n≤r)||decide ((r:Int)∈lost)||l.any fun x=>x.off==off&&x.col==(r:Int)
def partR (s:RwS) (ds:List Od) (at_:Int) (l:List RP) (off:Int) (x:List Txt×List Int) (r:Nat):List RP:=
 if wantB l off (x.1.length-2) x.2 r&&(thereO ds (colR s at_ r).toNat).isSome then [⟨colR s at_ r,off,(rowF l off x.1).getD r []⟩] else []
def partsO (s:RwS) (ds:List Od) (at_:Int) (l:List RP) (off:Int) (x:List Txt×List Int):List RP:=(List.range s.c.toNat).flatMap (partR s ds at_ l off x)
noncomputable def partsG (s:RwS) (ds:List Od) (bu:List Int) (at_:Int) (l:List RP):List Int→Except Int (List RP)
 |[]=>.ok []
 |o::os=>match filR s ds bu at_ o with
  |.error n=>.error n
  |.ok x=>match partsG s ds bu at_ l os with
   |.error n=>.error n
   |.ok y=>.ok (partsO s ds at_ l o x++y)
def offsC (s:RwS) (l:List RP):List Int:=((List.range s.k.toNat).map fun o:Nat=>(o:Int)).filter fun o=>l.any fun x=>x.off==o
noncomputable def partsF (s:RwS) (ds:List Od) (bu:List Int) (at_:Int) (l:List RP):Except Int (List RP):=
 if ¬OkC s ds bu l then .error 1 else if at_<0∨at_≥s.r then .error 70 else partsG s ds bu at_ l (offsC s l)
def wrongP (s:RwS) (x:RP):Bool:=decide (x.col<0∨x.col≥s.c∨x.off<0∨x.off≥s.k∨x.data.length≠64)
def putW (s:RwS) (at_:Int):List RP→List Od→Int×List Od
 |[],ds=>(0,ds)
 |x::l,ds=>match thereO ds x.col.toNat with
  |none=>putW s at_ l ds
  |some y=>if y.2.put (sectorG s.c s.k s.r at_ x.off) (strB x.data)=42 then (42,ds.set x.col.toNat (some (y.1,y.2.write (sectorG s.c s.k s.r at_ x.off) (strB x.data)))) else putW s at_ l (ds.set x.col.toNat (some (y.1,y.2.write (sectorG s.c s.k s.r at_ x.off) (strB x.data))))
def putF (s:RwS) (ds:List Od) (bu:List Int) (at_:Int) (l:List RP):Int×List Od:=
 if ¬RMay s ds bu∨l.any (wrongP s)=true then (1,ds) else if at_<0∨at_≥s.r then (70,ds) else
  if (putW s at_ l ds).1=42 then (42,(putW s at_ l ds).2) else (if RMay s (putW s at_ l ds).2 bu then (if (putW s at_ l ds).2.any offO then 42 else 0) else 1,if RMay s (putW s at_ l ds).2 bu then (putW s at_ l ds).2.map flushO else (putW s at_ l ds).2)
theorem partsG_snoc {s:RwS}{ds:List Od}{bu:List Int}{at_:Int}{l:List RP}:∀(A:List Int) (o:Int),partsG s ds bu at_ l (A++[o])=match partsG s ds bu at_ l A with
  |.error n=>.error n
  |.ok y=>match filR s ds bu at_ o with
   |.error n=>.error n
   |.ok x=>.ok (y++partsO s ds at_ l o x)
 |[],o=>by
  simp only[List.nil_append,partsG]
  cases filR s ds bu at_ o with
  |error n=>rfl
  |ok x=>simp
 |a::A,o=>by
  have ih:=partsG_snoc (s:=s) (ds:=ds) (bu:=bu) (at_:=at_) (l:=l) A o
  simp only[List.cons_append,partsG,ih]
  cases filR s ds bu at_ a with
  |error n=>rfl
  |ok x=>
   cases partsG s ds bu at_ l A with
   |error n=>rfl
   |ok y=>
    cases filR s ds bu at_ o with
    |error n=>rfl
    |ok z=>simp
theorem partsG_ok {s:RwS}{ds:List Od}{bu:List Int}{at_:Int}{l:List RP}{X:Int→List Txt×List Int}:∀(os:List Int),(∀o∈os,filR s ds bu at_ o=.ok (X o))→partsG s ds bu at_ l os=.ok (os.flatMap fun o=>partsO s ds at_ l o (X o))
 |[],_=>rfl
 |o::os,h=>by
  simp only[partsG,h o List.mem_cons_self,partsG_ok os fun x hx=>h x (List.mem_cons_of_mem _ hx),List.flatMap_cons]
theorem offsC_mem {s:RwS}{l:List RP}{o:Int}:o∈offsC s l↔(0≤o∧o<s.k)∧∃x∈l,x.off=o:=by
 unfold offsC
 rw[List.mem_filter,List.mem_map]
 constructor
 ·rintro⟨⟨i,hi,rfl⟩,h⟩
  have:=List.mem_range.1 hi
  obtain⟨x,hx,he⟩:=List.any_eq_true.1 h
  exact⟨by omega,x,hx,by simpa using he⟩
 ·rintro⟨h,x,hx,he⟩
  exact⟨⟨o.toNat,List.mem_range.2 (by omega),by omega⟩,List.any_eq_true.2 ⟨x,hx,by simpa using he⟩⟩
theorem offsC_nodup (s:RwS) (l:List RP):(offsC s l).Nodup:=by
 unfold offsC
 refine List.Pairwise.filter _ ?_
 rw[List.pairwise_map]
 exact List.nodup_range.imp fun {a b} hab e=>hab (by omega)
theorem partsO_mem {s:RwS}{ds:List Od}{at_:Int}{l:List RP}{off:Int}{x:List Txt×List Int}{y:RP}:y∈partsO s ds at_ l off x↔∃r:Nat,r<s.c.toNat∧wantB l off (x.1.length-2) x.2 r=true∧(thereO ds (colR s at_ r).toNat).isSome=true∧y=⟨colR s at_ r,off,(rowF l off x.1).getD r []⟩:=by
 unfold partsO
 rw[List.mem_flatMap]
 constructor
 ·rintro⟨r,hr,hy⟩
  unfold partR at hy
  split at hy
  ·rename_i h
   rw[Bool.and_eq_true]at h
   exact⟨r,List.mem_range.1 hr,h.1,h.2,List.mem_singleton.1 hy⟩
  ·cases hy
 ·rintro⟨r,hr,h1,h2,rfl⟩
  refine⟨r,List.mem_range.2 hr,?_⟩
  unfold partR
  rw[h1,h2]
  exact List.mem_singleton.2 rfl
def upL (s:RwS) (at_:Int):List RP→(Nat→Nat→ByteArray)→Nat→Nat→ByteArray
 |[],f=>f
 |x::l,f=>upL s at_ l (upF f x.col.toNat (sectorG s.c s.k s.r at_ x.off).toNat (strB x.data))
section
variable {s:RwS}{ds:List Od}{bu:List Int}{N M:Nat}{K:Nat→Nat}{f:Nat→Nat→ByteArray}
theorem upL_not {at_:Int}{i j:Nat}:∀(l:List RP) (f:Nat→Nat→ByteArray),(∀x∈l,¬(x.col.toNat=i∧(sectorG s.c s.k s.r at_ x.off).toNat=j))→upL s at_ l f i j=f i j
 |[],_,_=>rfl
 |x::l,f,h=>by
  unfold upL
  rw[upL_not l _ fun y hy=>h y (List.mem_cons_of_mem _ hy)]
  unfold upF
  rw[if_neg fun e=>h x List.mem_cons_self ⟨e.1.symm,e.2.symm⟩]
theorem upL_hit {at_:Int}:∀(l:List RP) (f:Nat→Nat→ByteArray),l.Pairwise (fun x y=>¬(x.col.toNat=y.col.toNat∧(sectorG s.c s.k s.r at_ x.off).toNat=(sectorG s.c s.k s.r at_ y.off).toNat))→∀x∈l,upL s at_ l f x.col.toNat (sectorG s.c s.k s.r at_ x.off).toNat=strB x.data
 |y::l,f,hp,x,hx=>by
  obtain⟨h1,h2⟩:=List.pairwise_cons.1 hp
  unfold upL
  rcases List.mem_cons.1 hx with rfl|hx
  ·rw[upL_not l _ fun z hz e=>h1 z hz ⟨e.1.symm,e.2.symm⟩]
   unfold upF
   rw[if_pos ⟨rfl,rfl⟩]
  ·exact upL_hit l _ h2 x hx
theorem put_mds {at_:Int}(hat:0≤at_∧at_<s.r):∀(l:List RP){ds:List Od}{M:Nat}{f:Nat→Nat→ByteArray},MdS s ds bu N M K f→(∀i,i<ds.length→K i≠2)→(∀x∈l,wrongP s x=false)→(putW s at_ l ds).1=0∧MdS s (putW s at_ l ds).2 bu N (M+l.length) K (upL s at_ l f)∧(putW s at_ l ds).2.length=ds.length
 |[],ds,M,f,h,_,_=>⟨rfl,h,rfl⟩
 |x::l,ds,M,f,h,hK,hl=>by
  have hx:=of_decide_eq_false (hl x List.mem_cons_self)
  have hlen:=h.len
  have hcl:x.col.toNat<ds.length:=by omega
  have hs:=sectorG_in h.ok hat (off:=x.off) (by omega)
  have hz:=h.size
  unfold putW upL
  rcases h.co x.col.toNat hcl with⟨k0,_⟩|⟨k1,_⟩|⟨k2,_⟩
  ·obtain⟨p,a,hk,hlv,ht⟩:=h.there hcl k0
   rw[ht]
   have hp:=hlv.on.put (i:=sectorG s.c s.k s.r at_ x.off) (by omega) (s:=strB x.data) (by rw[strB_size]; omega)
   have hw:=hlv.write (j:=(sectorG s.c s.k s.r at_ x.off).toNat) (by omega) (x:=strB x.data) (by rw[strB_size]; omega)
   rw[Int.toNat_of_nonneg (by omega)]at hw
   show(if a.put _ _=42 then _ else putW s at_ l _).1=0∧MdS s (if a.put _ _=42 then _ else putW s at_ l _).2 bu N _ K _∧(if a.put _ _=42 then _ else putW s at_ l _).2.length=_
   rw[if_neg (by rw[hp]; decide)]
   have h2:=((h.mono (M':=M+1) (by omega)).put hcl (y:=some (p,a.write (sectorG s.c s.k s.r at_ x.off) (strB x.data))) (k:=0) (.inl ⟨rfl,p,_,rfl,hw⟩)).congr (K':=K) (f':=upF f x.col.toNat (sectorG s.c s.k s.r at_ x.off).toNat (strB x.data)) (fun i hi=>by
     by_cases e:i=x.col.toNat
     ·rw[if_pos e,e,k0]
     ·rw[if_neg e]) (fun i hi _ j hj=>by
     unfold upF
     by_cases e:i=x.col.toNat
     ·rw[if_pos e]
      by_cases e2:j=(sectorG s.c s.k s.r at_ x.off).toNat
      ·rw[if_pos ⟨e,e2⟩,if_pos e2]
      ·rw[if_neg fun h=>e2 h.2,if_neg e2,e]
     ·rw[if_neg fun h=>e h.1,if_neg e])
   obtain⟨g1,g2,g3⟩:=put_mds hat l h2 (fun i hi=>hK i (by rw[List.length_set]at hi; exact hi)) fun y hy=>hl y (List.mem_cons_of_mem _ hy)
   refine⟨g1,?_,by rw[g3,List.length_set]⟩
   rw[List.length_cons,show M+(l.length+1)=M+1+l.length by omega]
   exact g2
  ·rw[(h.not hcl k1).2]
   have h2:=h.congr (K':=K) (f':=upF f x.col.toNat (sectorG s.c s.k s.r at_ x.off).toNat (strB x.data)) (fun i hi=>rfl) (fun i hi h0 j hj=>by
    unfold upF
    rw[if_neg fun h=>by have:=h.1; subst this; omega])
   obtain⟨g1,g2,g3⟩:=put_mds hat l h2 hK fun y hy=>hl y (List.mem_cons_of_mem _ hy)
   refine⟨g1,g2.mono (by rw[List.length_cons]; omega),g3⟩
  ·exact absurd k2 (hK _ hcl)
end
theorem chgL_len (l:List RP) (off:Int) (L:List Txt) (n:Nat):(chgL l off L n).length=n:=by simp[chgL]
theorem rowF_len (l:List RP) (off:Int){L:List Txt}(h:2≤L.length):(rowF l off L).length=L.length:=by
 unfold rowF
 rw[makeF_len,chgL_len]; omega
theorem chgL_get {l:List RP}{off:Int}{L:List Txt}{n i:Nat}(hi:i<n):(chgL l off L n).getD i []=match l.find? (fun x=>x.off==off&&x.col==(i:Int)) with
 |some x=>x.data
 |none=>L.getD i []:=by
 unfold chgL
 rw[List.getD_eq_getElem?_getD,List.getElem?_map,List.getElem?_range hi]; rfl
theorem rowF_not {l:List RP}{off:Int}{L:List Txt}{lost:List Int}{r:Nat}(h:wantB l off (L.length-2) lost r=false):(rowF l off L).getD r []=L.getD r []:=by
 unfold wantB at h
 rw[Bool.or_eq_false_iff,Bool.or_eq_false_iff]at h
 have h1:=of_decide_eq_false h.1.1
 unfold rowF
 rw[makeF_get,chgL_len,if_pos (by omega),chgL_get (by omega)]
 have:l.find? (fun x=>x.off==off&&x.col==(r:Int))=none:=by
  rw[List.find?_eq_none]
  intro x hx hh
  have:=List.any_eq_false.1 h.2 x hx
  exact this hh
 rw[this]
theorem rowF_good {l:List RP}{off:Int}{L:List Txt}(hG:GoodL L 64) (hl:∀x∈l,x.data.length=64):GoodL (rowF l off L) 64:=by
 have h4:=hG.n4
 have h10:=hG.n10
 unfold rowF
 refine make_good (fun j hj=>?_) (by rw[chgL_len]; omega) (by rw[chgL_len]; omega)
 rw[chgL_len]at hj
 rw[chgL_get hj]
 split
 ·rename_i x hx
  exact hl x (List.mem_of_find?_eq_some hx)
 ·exact hG.all j (by omega)
end Go.Proofs.YtkknkmplmilihaaGreat
end
