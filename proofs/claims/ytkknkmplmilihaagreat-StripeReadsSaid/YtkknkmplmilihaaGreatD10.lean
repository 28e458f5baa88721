import Derived.Laws.StructEq
import Derived.Laws.Slices
import Derived.Test.YtkknkmplmilihaaGreatD3
import Derived.Test.YtkknkmplmilihaaGreatD4
import Derived.Test.YtkknkmplmilihaaGreatD6
import Derived.Test.YtkknkmplmilihaaGreatD7
import Derived.Test.YtkknkmplmilihaaGreatD8
import Derived.Test.YtkknkmplmilihaaGreatD9
set_option linter.unusedSimpArgs false
set_option linter.unusedVariables false
set_option maxHeartbeats 2000000
set_option maxRecDepth 20000
section
namespace Go.Proofs.YtkknkmplmilihaaGreat
open Go.Sh Go.RowKit
def intsI (l:List Int):List Value:=l.map fun x=>.int .i64 x
theorem intsI_len (l:List Int):(intsI l).length=l.length:=List.length_map ..
def intsL (w:World) (p:Option Addr) (l:List Int):Prop:=(l≠[]→∃a,p=some a)∧∀a,p=some a→∀j x,l[j]?=some x→w.cell? (a.add j)=some (.int .i64 x)
theorem intsL.ext {w w':World}{p:Option Addr}{l:List Int}(h:intsL w p l) (hx:Ext w w'):intsL w' p l:=⟨h.1,fun a ha j x hj=>cell_ext hx (h.2 a ha j x hj)⟩
theorem intsL.get {w:World}{p:Option Addr}{l:List Int}(h:intsL w p l){n:Nat}(h1:n<l.length):∃a,p=some a∧w.cell? (a.add (n*1))=some (.int .i64 (l.getD n 0)):=by
 obtain⟨a,ha⟩:=h.1 (by intro e; subst e; simp at h1)
 refine⟨a,ha,?_⟩
 rw[Nat.mul_one]
 exact h.2 a ha n _ (by simp[h1])
theorem T.ints {F:List Nat}{w0 w:World}{Γ:List A}{g:Option Nat}{n cap:Nat}{l:List Int}(hT:T F w0 w Γ) (hm:rowP 3 1 g n cap (intsI l)∈Γ):intsL w (ptr g) l∧l.length=n:=by
 have hs:=hT.says hm
 have hl:=rowP.len hs
 rw[intsI_len,Nat.mul_one]at hl
 refine⟨⟨fun hn=>?_,fun a ha j x hj=>?_⟩,hl⟩
 ·obtain⟨b,rfl⟩:=rowP.pos hs (by
   cases l with
   |nil=>exact absurd rfl hn
   |cons x l=>simp at hl; omega)
  exact⟨_,rfl⟩
 ·cases g with
  |none=>cases ha
  |some b=>
   cases ha
   rw[addr_add,Nat.zero_add]
   refine rowP.cell hs ?_
   simp[intsI,hj]
theorem index_spec {l:List Int}(hl:l.length≤1000000) (x:Int){p:Option Addr}{c:Nat}{w:World}(h:intsL w p l):Calls Tp 180 #[.slice p l.length c,.int .i64 x] w fun e w'=>∃n:Int,e=.returned (.int .i64 n)∧(n≥0↔x∈l)∧Ext w w':=by
 refine(slices_Index_int_int_calls (R:=fun v w'=>∃n:Int,v=.int .i64 n∧(n≥0↔x∈l)∧Ext w w') ?_).mono fun e w' ⟨v,he,n,hv,h⟩=>⟨n,by rw[he,hv],h⟩
 unfold slices_Index_int_int
 refine⟨fun vs w'=>w'=w∧∃i:Nat,vs=[.int .i64 (i:Int)]∧i≤l.length∧x∉l.take i,fun vs _=>match vs with|[.int _ i]=>(l.length-i).toNat|_=>0,⟨rfl,0,rfl,by omega,by simp⟩,?_⟩
 rintro vs w1 ⟨rfl,i,rfl,hi,hni⟩
 refine⟨_,rfl,dec_t fun hlt=>?_,dec_f fun hge=>?_⟩
 ·have hlt:i<l.length:=by omega
  obtain⟨a,ha,hc⟩:=h.get hlt
  have hg:l.getD i 0=l[i]:=by simp[List.getD,hlt]
  refine⟨a,ha,by omega,by omega,_,by rw[Int.toNat_natCast]; exact hc,beq_t fun hx=>⟨_,rfl,⟨fun _=>?_,fun _=>by omega⟩,Ext.refl _⟩,beq_f fun hx=>⟨⟨rfl,i+1,?_,by omega,?_⟩,?_⟩⟩
  ·rw[hx,hg]; exact List.getElem_mem hlt
  ·rw[wrap64 _ (by omega) (by omega)]; rfl
  ·rw[List.take_add_one,List.getElem?_eq_getElem hlt]
   intro hm
   rcases List.mem_append.1 hm with hm|hm
   ·exact hni hm
   ·rw[hg]at hx
    exact hx (by simpa using hm)
  ·show((l.length:Int)-IntKind.i64.wrap ((i:Int)+1)).toNat<((l.length:Int)-(i:Int)).toNat
   rw[wrap64 _ (by omega) (by omega)]; omega
 ·have hie:i=l.length:=by omega
  subst hie
  rw[List.take_length]at hni
  exact⟨_,rfl,⟨fun h=>absurd h (by decide),fun h=>absurd h hni⟩,Ext.refl _⟩
theorem contains_spec {l:List Int}(hl:l.length≤1000000) (x:Int){p:Option Addr}{c:Nat}{w:World}(h:intsL w p l):Ret Tp 107 #[.slice p l.length c,.int .i64 x] w (.bool (decide (x∈l))):=by
 refine ret_of (slices_Contains_int_int_calls ?_)
 unfold slices_Contains_int_int
 refine(index_spec hl x h).mono fun e w1 ⟨n,he,hn,hx⟩=>⟨n,he,?_,hx⟩
 congr 1
 exact decide_eq_decide.2 hn
theorem clone_spec {L:List (List UInt8)}(hl:L.length≤1000000){p:Option Addr}{c:Nat}{w0 w:World}{Γ:List A}(hT:T [] w0 w Γ) (h:strsL w0 p L):
  Calls Tp 106 #[.slice p L.length c] w fun e w'=>∃g cap,e=.returned (.slice (ptr g) L.length cap)∧T [] w0 w' (rowP 9 1 g L.length cap (L.map fun x=>.string (strB x))::Γ):=by
 refine(slices_Clone_string_string_calls (R:=fun v w'=>∃g cap,v=.slice (ptr g) L.length cap∧T [] w0 w' (rowP 9 1 g L.length cap (L.map fun x=>.string (strB x))::Γ)) ?_).mono fun e w' ⟨v,he,g,cap,hv,h⟩=>⟨g,cap,by rw[he,hv],h⟩
 unfold slices_Clone_string_string
 refine⟨fun hp=>?_,fun hp=>?_⟩
 ·have hp:p=none:=by simpa using hp
  have:L=[]:=by
   cases L with
   |nil=>rfl
   |cons x L=>obtain⟨a,ha⟩:=h.1 (by simp); rw[hp]at ha; cases ha
  subst this
  exact⟨none,0,rfl,T.nilRow hT _ _⟩
 ·obtain⟨a,rfl⟩:∃a,p=some a:=by
   cases p with
   |none=>cases hp
   |some a=>exact⟨a,rfl⟩
  refine Alloc.t hT fun k5 w1 h1=>?_
  have h1:T [] w0 w1 (rowP 9 1 (some k5) 0 0 []::Γ):=blk_row h1 rfl rfl (by decide)
  obtain⟨g',cap',w2,hr,h2⟩:=append_t (P:=Tp) (t:=54) (ty:=54) (e:=9) (i:=Tryz.t9) (z:=.string (ByteArray.mk #[])) (size:=1) #[false,false] (by kernel_rfl) (by kernel_rfl) (by kernel_rfl) (by kernel_rfl) (by rfl)
   h1 .head (a:=a) (m:=L.length) (c:=c) (news:=L.map fun x=>.string (strB x)) (by simp) (fun j u hu=>by
    refine(h.ext h1.chg.ext).2 a rfl j (strB (L.getD j [])) ?_ |>.trans ?_
    ·rw[List.getElem?_map]at hu⊢
     cases hq:L[j]? with
     |none=>rw[hq]at hu; cases hu
     |some x=>simp[List.getD,hq]
    ·rw[List.getElem?_map]at hu
     cases hq:L[j]? with
     |none=>rw[hq]at hu; cases hu
     |some x=>rw[hq]at hu; cases hu; simp[List.getD,hq]) (fun u hu=>by
    obtain⟨x,_,rfl⟩:=List.mem_map.1 hu
    rfl) (by simp only[maxLen]; omega) (by
    have:(Tryz.t9).bytes=16:=by kernel_rfl
    rw[this]; omega)
  rw[Nat.zero_add,List.nil_append]at h2
  rw[Nat.zero_add]at hr
  exact⟨_,_,_,w2,hr,g',cap',rfl,h2⟩
theorem values_spec {l:List Int}{p:Option Addr}{c:Nat}{w0 w:World}{Γ:List A}(hT:T [] w0 w Γ):
  Calls Tp 105 #[.slice p l.length c] w fun e w'=>∃k,e=.returned (.func (.func 179) #[] #[.pointer (some ⟨k,0,none⟩)])∧T [] w0 w' (blk k #[.slice p l.length c] 29::Γ):=by
 refine(slices_Values_int_int_calls (R:=fun v w'=>∃k,v=.func (.func 179) #[] #[.pointer (some ⟨k,0,none⟩)]∧T [] w0 w' (blk k #[.slice p l.length c] 29::Γ)) ?_).mono fun e w' ⟨v,he,k,hv,h⟩=>⟨k,by rw[he,hv],h⟩
 unfold slices_Values_int_int
 exact Alloc.t hT fun k w1 h1=>⟨k,rfl,h1⟩
theorem values1_spec {l:List Int}(hl:l.length≤1000000){p:Option Addr}{c:Nat}{k1:Addr}{yv:Value}{J:Nat→World→Prop}
  (hrd:∀m W,J m W→W.cell? k1=some (.slice p l.length c)∧intsL W p l)
  (hcall:∀m W,m<l.length→J m W→CallF Tp yv [.int .i64 (l.getD m 0)] W fun e w'=>e=.returned (.bool true)∧J (m+1) w') (W:World) (h0:J 0 W):
  Calls Tp 179 #[yv,.pointer (some k1)] W fun e w'=>(∃v,e=.returned v)∧J l.length w':=by
 refine(slices_Values_int_int_1_calls (R:=fun v w'=>J l.length w') ?_).mono fun e w' ⟨v,he,h⟩=>⟨⟨v,he⟩,h⟩
 unfold slices_Values_int_int_1
 refine⟨_,_,_,(hrd 0 W h0).1,?_⟩
 refine⟨fun vs w'=>∃i:Nat,vs=[.int .i64 (i:Int)]∧i≤l.length∧J i w',fun vs _=>match vs with|[.int _ i]=>(l.length-i).toNat|_=>0,⟨0,rfl,by omega,h0⟩,?_⟩
 rintro vs w1 ⟨i,rfl,hi,hJ⟩
 refine⟨_,rfl,dec_t fun hlt=>?_,dec_f fun hge=>?_⟩
 ·have hlt:i<l.length:=by omega
  obtain⟨a,ha,hc⟩:=(hrd _ _ hJ).2.get hlt
  refine⟨a,ha,by omega,by omega,_,by rw[Int.toNat_natCast]; exact hc,?_⟩
  refine CallF.mono (hcall i w1 hlt hJ) fun e w2 ⟨he,hJ2⟩=>⟨true,he,no rfl ⟨⟨i+1,?_,by omega,hJ2⟩,?_⟩⟩
  ·rw[wrap64 _ (by omega) (by omega)]; rfl
  ·show((l.length:Int)-IntKind.i64.wrap ((i:Int)+1)).toNat<((l.length:Int)-(i:Int)).toNat
   rw[wrap64 _ (by omega) (by omega)]; omega
 ·have hie:i=l.length:=by omega
  subst hie
  exact hJ
theorem intsI_take (l:List Int){m:Nat}(h:m<l.length):intsI (l.take m)++[.int .i64 (l.getD m 0)]=intsI (l.take (m+1)):=by
 unfold intsI
 rw[List.take_add_one,List.getElem?_eq_getElem h,List.map_append,show l.getD m 0=l[m] by simp[List.getD,h]]
 rfl
theorem appendSeq_spec {l:List Int}(hl:l.length≤100000){p:Option Addr}{c:Nat}{k:Nat}{w0 w:World}{Γ:List A}(hr:∀w',Ext w0 w'→intsL w' p l) (hT:T [] w0 w (blk k #[.slice p l.length c] 29::Γ)):
  Calls Tp 188 #[.slice none 0 0,.func (.func 179) #[] #[.pointer (some ⟨k,0,none⟩)]] w fun e w'=>∃g cap,e=.returned (.slice (ptr g) l.length cap)∧T [] w0 w' (rowP 3 1 g l.length cap (intsI l)::Γ):=by
 refine(slices_AppendSeq_int_int_calls (R:=fun v w'=>∃g cap,v=.slice (ptr g) l.length cap∧T [] w0 w' (rowP 3 1 g l.length cap (intsI l)::Γ)) ?_).mono fun e w' ⟨v,he,g,cap,hv,h⟩=>⟨g,cap,by rw[he,hv],h⟩
 unfold slices_AppendSeq_int_int
 refine Alloc.t hT fun k2 w1 h1=>?_
 have h1:T [] w0 w1 (rowP 3 1 none 0 0 (intsI (l.take 0))::blk k2 #[.slice (ptr none) 0 0] 29::blk k #[.slice p l.length c] 29::Γ):=T.nilRow h1 _ _
 refine RangeP.t (by kernel_rfl) h1 (N:=l.length) (arg:=fun m=>[.int .i64 (l.getD m 0)])
  (Inv:=fun m Γm=>∃g cap,Γm=rowP 3 1 g m cap (intsI (l.take m))::blk k2 #[.slice (ptr g) m cap] 29::blk k #[.slice p l.length c] 29::Γ)
  ⟨none,0,rfl⟩ ?_ ?_ ?_
 ·intro yv J hJ hc W hW
  refine values1_spec (by omega) (p:=p) (c:=c) (fun m W hm=>?_) hc W hW
  obtain⟨Γk,x,y,⟨g,cap,rfl⟩,h⟩:=hJ m W hm
  exact⟨h.ld (b:=k) (by repeat constructor) rfl,hr W h.chg.ext⟩
 ·rintro obf l' d m Γk W Φ hm ⟨g,cap,rfl⟩ hW hΦ
  refine⟨_,rfl,?_⟩
  refine RoundP.t hW (G:=fun Γ'=>∃Γ'',Γ'=ob d (.deferred (some []))::Γ''∧∃g cap,Γ''=rowP 3 1 g (m+1) cap (intsI (l.take (m+1)))::blk k2 #[.slice (ptr g) (m+1) cap] 29::blk k #[.slice p l.length c] 29::Γ) ?_ ?_
  ·rintro Γ' w' ⟨Γ'',rfl,hi⟩ h'
   exact hΦ Γ'' w' hi h'
  ·intro K X R w4 h4 hK
   refine⟨_,_,_,h4.ld (b:=k2) (by repeat constructor) rfl,?_⟩
   refine push1_t (i:=Tryz.t3) (z:=.int .i64 0) (by kernel_rfl) (by kernel_rfl) (by kernel_rfl) (by kernel_rfl) (by kernel_rfl) (by kernel_rfl) h4 (.tail (.tail .head)) rfl (by omega) fun g' cap' w5 h5=>?_
   rw[intsI_take l hm]at h5
   refine St.t h5 (by repeat constructor) (by simp) (by rfl) rfl fun w6 h6=>hK (ob d (.deferred (some []))::_) w6 ⟨_,rfl,g',cap',rfl⟩ ?_
   exact h6.swap (Pick.perm (a:=rowP 3 1 g' (m+1) cap' (intsI (l.take (m+1)))) (Γ:=ob l' _::ob d _::rowP 3 1 g' (m+1) cap' (intsI (l.take (m+1)))::_) (.tail (.tail .head))).symm
 ·rintro d Γ' w' ⟨g,cap,rfl⟩ h'
  rw[List.take_length]at h'
  refine⟨_,_,_,h'.ld (b:=k2) (by repeat constructor) rfl,?_⟩
  exact shut_mark (Q:=fun w2=>∃g' cap',Value.slice (ptr g) l.length cap=.slice (ptr g') l.length cap'∧T [] w0 w2 (rowP 3 1 g' l.length cap' (intsI l)::Γ)) h' fun w2 h2=>⟨g,cap,rfl,T.dropAt (T.dropAt h2 (.tail .head)) (.tail .head)⟩
theorem below_ext {w w':World}(h:Below w.heap.size w w'):Ext w w':=⟨h.os,h.output,h.size,h.block⟩
theorem repeat_spec (n:Nat) (hn:n≤1000000) (w:World):Ret Tp 93 #[.string (ByteArray.mk #[0]),.int .i64 (n:Int)] w (.string (strB (List.replicate n 0))):=by
 refine(Tryz.strings_Repeat (ByteArray.mk #[0]) n w (by omega) (by show 1*n≤_; omega)).mono fun e w' ⟨he,hb⟩=>⟨?_,below_ext hb⟩
 rw[he]
 have:∀m:Nat,Lib.repeatL (ByteArray.mk #[0]).data.toList m=List.replicate m 0:=by
  intro m
  induction m with
  |zero=>rfl
  |succ m ih=>
   show[(0:UInt8)]++Lib.repeatL _ m=_
   rw[ih]; rfl
 rw[this]
def srt (l:List Int):List Int:=l.mergeSort fun x y=>decide (x≤y)
theorem srt_len (l:List Int):(srt l).length=l.length:=List.length_mergeSort _
theorem srt_mem (l:List Int) (x:Int):x∈srt l↔x∈l:=List.mem_mergeSort
theorem putCells_row {n cap:Nat}{cur:Array Value}{l l':List Int}(hc:cur.size=cap) (hn:n≤cap) (hl:l'.length=n) (h:cur.toList.take n=intsI l):(Go.Sort.putCells (Value.int .i64) 0 l'.toArray cur).toList.take n=intsI l':=by
 apply List.ext_getElem?
 intro j
 rw[List.getElem?_take]
 by_cases hj:j<n
 ·rw[if_pos hj,Array.getElem?_toList]
  unfold Go.Sort.putCells
  rw[Array.getElem?_mapIdx,Array.getElem?_eq_getElem (by omega)]
  simp[hl,hj,intsI,List.getElem?_eq_getElem (show j<l'.length by omega),getElem!_pos l' j (by omega)]
 ·rw[if_neg hj,List.getElem?_eq_none (by rw[intsI_len]; omega)]
theorem sort_spec {l:List Int}(hl:l.length≤1000000){g:Option Nat}{cap:Nat}{w0 w:World}{Γ:List A}(hT:T [] w0 w (rowP 3 1 g l.length cap (intsI l)::Γ)):
  Calls Tp 118 #[.slice (ptr g) l.length cap] w fun e w'=>e=.returned (.tuple #[])∧T [] w0 w' (rowP 3 1 g l.length cap (intsI (srt l))::Γ):=by
 by_cases h0:l.length=0
 ·have:l=[]:=List.eq_nil_of_length_eq_zero h0
  subst this
  refine(Tryz.slices_Sort_int_none (ptr g) cap w).mono fun e w' ⟨he,hw⟩=>⟨he,?_⟩
  subst hw
  have:srt []=[]:=List.eq_nil_of_length_eq_zero (srt_len [])
  rw[this]; exact hT
 ·obtain⟨b,rfl⟩:∃b,g=some b:=rowP.pos (hT.says List.mem_cons_self) (by omega)
  obtain⟨h1,h2,h3,cur,h4,h5,h6⟩:=hT.says List.mem_cons_self
  have h4:w.heap[b]?=some (.cells cur 3 (0,0)):=h4
  have hb:b<w.heap.size:=lt_of_heap h4
  rw[Nat.mul_one]at h5 h6
  have hH:Go.Sort.Holds (Value.int .i64) w b 0 l.toArray:=by
   intro j hj
   have hj:j<l.length:=by simpa using hj
   rw[Nat.zero_add]
   refine⟨?_,by simp[World.frozen?,h4]⟩
   refine rowP.cell (hT.says List.mem_cons_self) ?_
   simp[intsI,hj,getElem!_pos l j hj]
  refine(Tryz.slices_Sort_int b 0 cap l w hH hb (by omega)).mono fun e w' ⟨he,n,os,hw⟩=>⟨he,?_⟩
  subst hw
  have hsz:(Go.Sort.putRow (Value.int .i64) (Go.Sort.ahead w n) b 0 (srt l).toArray).heap.size=w.heap.size:=by
   show(w.heap.modify b _).size=_
   rw[Array.size_modify]
  have hat:∀c,c<w.heap.size→(Go.Sort.grow (Go.Sort.putRow (Value.int .i64) (Go.Sort.ahead w n) b 0 (srt l).toArray) os).heap[c]?=(w.heap.modify b (Go.Sort.onCells (Go.Sort.putCells (Value.int .i64) 0 (srt l).toArray)))[c]?:=fun c hc=>by
   show((w.heap.modify b _)++os)[c]?=_
   rw[Array.getElem?_append_left (by rw[Array.size_modify]; exact hc)]
  change T [] w0 (Go.Sort.grow (Go.Sort.putRow (Value.int .i64) (Go.Sort.ahead w n) b 0 (srt l).toArray) os) _
  refine hT.turn (x:=rowP 3 1 (some b) l.length cap (intsI l)) rfl rfl ?_ (fun c hc hn=>?_) (by simp[rowP]) (fun c hc=>?_) ?_
  ·show w.heap.size≤((w.heap.modify b _)++os).size
   rw[Array.size_append,Array.size_modify]; omega
  ·rw[hat c hc,Array.getElem?_modify,if_neg (fun e=>hn (by simp[rowP,e]))]
  ·obtain rfl:c=b:=by simpa[rowP] using hc
   refine⟨?_,.inl (by simp[rowP])⟩
   show c<((w.heap.modify c _)++os).size
   rw[Array.size_append,Array.size_modify]; omega
  ·refine⟨by rw[intsI_len,srt_len,Nat.mul_one],h2,h3,Go.Sort.putCells (Value.int .i64) 0 (srt l).toArray cur,?_,?_,?_⟩
   ·show(Go.Sort.grow _ os).heap[b]?=_
    rw[hat b hb,Array.getElem?_modify,if_pos rfl,h4]
    rfl
   ·unfold Go.Sort.putCells; rw[Array.size_mapIdx,h5,Nat.mul_one]
   ·rw[Nat.mul_one]
    exact putCells_row h5 h2 (srt_len l) h6
theorem sorted_spec {l:List Int}(hl:l.length≤100000){p:Option Addr}{c:Nat}{k:Nat}{w0 w:World}{Γ:List A}(hr:∀w',Ext w0 w'→intsL w' p l) (hT:T [] w0 w (blk k #[.slice p l.length c] 29::Γ)):
  Calls Tp 52 #[.func (.func 179) #[] #[.pointer (some ⟨k,0,none⟩)]] w fun e w'=>∃g cap,e=.returned (.slice (ptr g) l.length cap)∧T [] w0 w' (rowP 3 1 g l.length cap (intsI (srt l))::Γ):=by
 refine(slices_Sorted_int_calls (R:=fun v w'=>∃g cap,v=.slice (ptr g) l.length cap∧T [] w0 w' (rowP 3 1 g l.length cap (intsI (srt l))::Γ)) ?_).mono fun e w' ⟨v,he,g,cap,hv,h⟩=>⟨g,cap,by rw[he,hv],h⟩
 unfold slices_Sorted_int
 refine(slices_Collect_int_calls (R:=fun v w'=>∃g cap,v=.slice (ptr g) l.length cap∧T [] w0 w' (rowP 3 1 g l.length cap (intsI l)::Γ)) ?_).mono ?_
 ·unfold slices_Collect_int
  exact(appendSeq_spec hl hr hT).mono fun e w1 ⟨g,cap,he,h1⟩=>⟨_,_,_,he,g,cap,rfl,h1⟩
 ·rintro e w1 ⟨v,he,g,cap,rfl,h1⟩
  exact⟨_,_,_,he,(sort_spec (by omega) h1).mono fun e w2 ⟨he,h2⟩=>⟨he,g,cap,rfl,h2⟩⟩
abbrev Txt:=List UInt8
structure OkM (L:List Txt) (lost:List Int):Prop where
 n4:4≤L.length
 n10:L.length≤10
 rng:∀x∈lost,0≤x∧x<(L.length:Int)
 nodup:lost.Nodup
 lens:∃m,m≤4096∧∀j,j<L.length→(j:Int)∉lost→(L.getD j []).length=m
def txts (L:List Txt):List Value:=L.map fun x=>.string (strB x)
theorem txts_len (L:List Txt):(txts L).length=L.length:=List.length_map ..
theorem txts_set (L:List Txt) (i:Nat) (x:Txt):(txts L).set i (.string (strB x))=txts (L.set i x):=by simp[txts,List.map_set]
theorem nodup_take {l:List Int}(h:l.Nodup) (i:Nat):(l.take i).Nodup:=h.sublist (List.take_sublist i l)
theorem not_nodup {l:List Int}{i:Nat}(hi:i<l.length) (h:l[i]∈l.take i):¬l.Nodup:=fun hn=>by
 have h1:(l.take (i+1)).Nodup:=nodup_take hn _
 rw[List.take_add_one,List.getElem?_eq_getElem hi]at h1
 have:=(List.nodup_append.1 h1).2.2
 exact this _ h _ (by simp) rfl
def seenL (n:Nat) (l:List Int):List Value:=(List.range n).map fun(j:Nat)=>.bool (decide ((j:Int)∈l))
theorem seenL_get (n:Nat) (l:List Int){j:Nat}(hj:j<n):(seenL n l)[j]?=some (.bool (decide ((j:Int)∈l))):=by simp[seenL,hj]
theorem seenL_set (n:Nat){l:List Int}{x:Int}(h0:0≤x):(seenL n l).set x.toNat (.bool true)=seenL n (l++[x]):=by
 apply List.ext_getElem?
 intro j
 rw[List.getElem?_set]
 by_cases hj:j<n
 ·rw[seenL_get n (l++[x]) hj]
  by_cases e:x.toNat=j
  ·rw[if_pos e,if_pos (by simp[seenL]; omega)]
   have:(j:Int)∈l++[x]:=by simp; right; omega
   rw[decide_eq_true this]
  ·rw[if_neg e,seenL_get n l hj]
   have:((j:Int)∈l++[x])↔(j:Int)∈l:=by
    simp; omega
   congr 2
   exact decide_eq_decide.2 this.symm
 ·by_cases e:x.toNat=j
  ·rw[if_pos e,if_neg (by simp[seenL]; omega)]; simp[seenL,hj]
  ·rw[if_neg e]; simp[seenL,hj]
theorem fmay_spec {L:List Txt}{lost:List Int}(hl:lost.length≤1000000) (hL:L.length≤1000000) (hS:Short L){p q:Option Addr}{c d:Nat}{w:World}(hp:strsL w p L) (hq:intsL w q lost):
  Calls Tp 104 #[.slice p L.length c,.slice q lost.length d] w fun e w'=>∃n:Int,e=.returned (.int .i64 n)∧Ext w w'∧(OkM L lost→n=if lost.length>2 then 60 else 0)∧(¬OkM L lost→n=1):=by
 refine(refill_May_calls (R:=fun v w'=>∃n:Int,v=.int .i64 n∧Ext w w'∧(OkM L lost→n=if lost.length>2 then 60 else 0)∧(¬OkM L lost→n=1)) ?_).mono fun e w' ⟨v,he,n,hv,h⟩=>⟨n,by rw[he,hv],h⟩
 unfold refill_May
 have bad:∀{w'},Ext w w'→¬OkM L lost→∃n:Int,Value.int .i64 1=.int .i64 n∧Ext w w'∧(OkM L lost→n=if lost.length>2 then 60 else 0)∧(¬OkM L lost→n=1):=fun hx hn=>⟨1,rfl,hx,fun h=>absurd h hn,fun _=>rfl⟩
 refine⟨dec_t fun h=>bad (.refl w) (fun hk=>by have:=hk.n4; omega),dec_f fun n4=>⟨dec_t fun h=>bad (.refl w) (fun hk=>by have:=hk.n10; omega),dec_f fun n10=>?_⟩⟩
 obtain⟨k,w1,hmk,h1⟩:=make_t (P:=Tp) (t:=144) (e:=4) (i:=Tryz.t4) (z:=.bool false) (kl:=.i64) (kc:=.i64) (n:=(L.length:Int)) (c:=(L.length:Int)) (by kernel_rfl) (by kernel_rfl) (by kernel_rfl) (by kernel_rfl) (by rfl) (by kernel_rfl) (by omega) (by omega) (by omega) (T.nil w)
 simp only[Int.toNat_natCast]at hmk h1
 have h1:T [] w w1 [rowP 4 1 (some k) L.length L.length (seenL L.length (lost.take 0))]:=by
  have:List.replicate L.length ((Value.bool false).cells.getD 0 undef)=seenL L.length (lost.take 0):=by
   apply List.ext_getElem?
   intro j
   by_cases hj:j<L.length
   ·rw[seenL_get _ _ hj]; simp[hj]; rfl
   ·simp[seenL,hj]
  rw[←this]; exact h1
 refine⟨_,_,_,w1,hmk,?_⟩
 refine⟨fun vs w'=>∃i:Nat,vs=[.int .i64 (i:Int)]∧i≤lost.length∧(∀x∈lost.take i,0≤x∧x<(L.length:Int))∧(lost.take i).Nodup∧T [] w w' [rowP 4 1 (some k) L.length L.length (seenL L.length (lost.take i))],fun vs _=>match vs with|[.int _ i]=>(lost.length-i).toNat|_=>0,⟨0,rfl,by omega,by simp,by simp,h1⟩,?_⟩
 rintro vs w2 ⟨i,rfl,hi,hr,hnd,h2⟩
 refine⟨_,rfl,dec_t fun hlt=>?_,dec_f fun hge=>?_⟩
 ·have hlt:i<lost.length:=by omega
  obtain⟨a,ha,hc⟩:=(hq.ext h2.chg.ext).get hlt
  have hg:lost.getD i 0=lost[i]:=by simp[List.getD,hlt]
  rw[hg]at hc
  have hmem:lost[i]∈lost:=List.getElem_mem hlt
  refine⟨a,ha,by omega,by omega,_,by rw[Int.toNat_natCast]; exact hc,dec_t fun h=>bad h2.chg.ext (fun hk=>by have:=hk.rng _ hmem; omega),dec_f fun x0=>⟨dec_t fun h=>bad h2.chg.ext (fun hk=>by have:=hk.rng _ hmem; omega),dec_f fun x1=>?_⟩⟩
  have hxn:lost[i].toNat<L.length:=by omega
  have hcell:=seenL_get L.length (lost.take i) hxn
  rw[show((lost[i].toNat:Nat):Int)=lost[i] by omega]at hcell
  refine⟨⟨k,0,none⟩,rfl,by omega,by omega,_,by rw[addr_add,Nat.zero_add,Nat.mul_one]; exact rowP.cell (h2.says List.mem_cons_self) hcell,dec_t fun hm=>bad h2.chg.ext (fun hk=>not_nodup hlt hm hk.nodup),dec_f fun hm=>⟨⟨k,0,none⟩,rfl,by omega,by omega,?_⟩⟩
  rw[addr_add,Nat.zero_add,Nat.mul_one]
  refine StRow.t h2 .head (by simp[seenL]; omega) rfl fun w3 h3=>?_
  have htk:lost.take (i+1)=lost.take i++[lost[i]]:=by rw[List.take_add_one,List.getElem?_eq_getElem hlt]; rfl
  rw[seenL_set _ (by omega),←htk]at h3
  refine⟨⟨i+1,?_,by omega,?_,?_,h3⟩,?_⟩
  ·rw[wrap64 _ (by omega) (by omega)]; rfl
  ·rw[htk]
   intro x hx
   rcases List.mem_append.1 hx with hx|hx
   ·exact hr x hx
   ·obtain rfl:=List.mem_singleton.1 hx
    omega
  ·rw[htk,List.nodup_append]
   refine⟨hnd,by simp,fun x hx y hy=>?_⟩
   obtain rfl:=List.mem_singleton.1 hy
   exact fun e=>hm (e▸hx)
  ·show((lost.length:Int)-IntKind.i64.wrap ((i:Int)+1)).toNat<((lost.length:Int)-(i:Int)).toNat
   rw[wrap64 _ (by omega) (by omega)]; omega
 ·have hie:i=lost.length:=by omega
  subst hie
  rw[List.take_length]at hr hnd h2
  refine⟨fun vs w'=>∃(i:Nat) (n8:Int),vs=[.int .i64 n8,.int .i64 (i:Int)]∧i≤L.length∧w'=w2∧((n8=-1∧∀j,j<i→(j:Int)∈lost)∨∃m:Nat,m≤4096∧n8=m∧(∃j,j<i∧(j:Int)∉lost)∧∀j,j<i→(j:Int)∉lost→(L.getD j []).length=m),fun vs _=>match vs with|[_,.int _ i]=>(L.length-i).toNat|_=>0,⟨0,-1,rfl,by omega,rfl,.inl ⟨rfl,fun j h=>by omega⟩⟩,?_⟩
  rintro vs w3 ⟨i,n8,rfl,hi,rfl,hinv⟩
  refine⟨_,_,rfl,dec_t fun hlt=>?_,dec_f fun hge=>?_⟩
  ·have hlt:i<L.length:=by omega
   obtain⟨a,ha,hc⟩:=(hp.ext h2.chg.ext).get hlt
   have hsi:=hS.get i
   have hms:((L.length:Int)-IntKind.i64.wrap ((i:Int)+1)).toNat<((L.length:Int)-(i:Int)).toNat:=by rw[wrap64 _ (by omega) (by omega)]; omega
   have hnx:IntKind.i64.wrap ((i:Int)+1)=((i+1:Nat):Int):=by rw[wrap64 _ (by omega) (by omega)]; omega
   refine⟨a,ha,by omega,by omega,_,by rw[Int.toNat_natCast]; exact hc,⟨k,0,none⟩,rfl,by omega,by omega,_,by rw[addr_add,Nat.zero_add,Nat.mul_one,Int.toNat_natCast]; exact rowP.cell (h2.says List.mem_cons_self) (seenL_get _ _ hlt),dec_t fun hm=>?_,dec_f fun hm=>Join.intro fun J hJ=>?_⟩
   ·refine⟨⟨i+1,n8,by rw[hnx],by omega,rfl,?_⟩,hms⟩
    rcases hinv with⟨h8,h⟩|⟨m,hm4,h8,⟨j,hj,hjl⟩,h⟩
    ·exact .inl ⟨h8,fun j hj=>by
      rcases Nat.lt_or_ge j i with h'|h'
      ·exact h j h'
      ·obtain rfl:j=i:=by omega
       exact hm⟩
    ·exact .inr ⟨m,hm4,h8,⟨j,by omega,hjl⟩,fun j hj hl=>by
      rcases Nat.lt_or_ge j i with h'|h'
      ·exact h j h' hl
      ·obtain rfl:j=i:=by omega
       exact absurd hm hl⟩
   ·rw[strB_size]
    have good:(L.getD i []).length≤4096→(∀j,j<i→(j:Int)∉lost→(L.getD j []).length=(L.getD i []).length)→J [.bool false] w3:=fun h4 heq=>by
     refine hJ _ _ ⟨_,rfl,fun e=>(by cases e),fun _=>⟨⟨i+1,((L.getD i []).length:Int),by rw[hnx,strB_size],by omega,rfl,.inr ⟨_,h4,rfl,⟨i,by omega,hm⟩,fun j hj hl=>?_⟩⟩,hms⟩⟩
     rcases Nat.lt_or_ge j i with h'|h'
     ·exact heq j h' hl
     ·obtain rfl:j=i:=by omega
      rfl
    have evil:¬OkM L lost→J [.bool true] w3:=fun hn=>hJ _ _ ⟨_,rfl,fun _=>bad h2.chg.ext hn,fun e=>(by cases e)⟩
    have last:(∀j,j<i→(j:Int)∉lost→(L.getD j []).length=(L.getD i []).length)→J [.bool (decide (((L.getD i []).length:Int)>4096))] w3:=fun heq=>by
     by_cases h4:(L.getD i []).length≤4096
     ·rw[decide_eq_false (by omega)]; exact good h4 heq
     ·rw[decide_eq_true (by omega)]
      refine evil fun hk=>?_
      obtain⟨m,hm4,h⟩:=hk.lens
      have:=h i hlt hm
      omega
    rcases hinv with⟨h8,h⟩|⟨m,hm4,h8,⟨j,hj,hjl⟩,h⟩
    ·subst h8
     exact no rfl (last fun j hj hl=>absurd (h j hj) hl)
    ·subst h8
     refine yes (decide_eq_true (by omega)) ⟨bne_t fun hne=>evil fun hk=>?_,bne_f fun he=>last fun j' hj' hl'=>?_⟩
     ·obtain⟨m',hm4',h'⟩:=hk.lens
      have e1:=h' i hlt hm
      have e2:=h' j (by omega) hjl
      have e3:=h j hj hjl
      omega
     ·have:=h j' hj' hl'; omega
  ·have hie:i=L.length:=by omega
   subst hie
   have hk:OkM L lost:=⟨by omega,by omega,hr,hnd,by
    rcases hinv with⟨h8,h⟩|⟨m,hm4,h8,_,h⟩
    ·exact⟨0,by omega,fun j hj hl=>absurd (h j hj) hl⟩
    ·exact⟨m,hm4,h⟩⟩
   refine⟨dec_t fun h=>⟨60,rfl,h2.chg.ext,fun _=>by rw[if_pos (by omega)],fun hn=>absurd hk hn⟩,dec_f fun h=>⟨0,rfl,h2.chg.ext,fun _=>by rw[if_neg (by omega)],fun hn=>absurd hk hn⟩⟩
theorem StS.t {F:List Nat}{w0 w:World}{Γ Δ:List A}{n cap b k:Nat}{L:List Txt}{x:Txt}{K:World→Prop}(hT:T F w0 w Γ) (hk:Pick (rowP 9 1 (some b) n cap (txts L)) Γ Δ) (hkl:k<L.length)
  (h:∀w',T F w0 w' (rowP 9 1 (some b) n cap (txts (L.set k x))::Δ)→K w'):St (Addr.add ⟨b,0,none⟩ (k*1)) (.string (strB x)) w K:=by
 rw[addr_add,Nat.zero_add,Nat.mul_one]
 exact StRow.t hT hk (by rw[txts_len]; exact hkl) rfl fun w' h'=>h w' (by rw[txts_set]at h'; exact h')
theorem T.rowS {F:List Nat}{w0 w:World}{Γ:List A}{b n cap:Nat}{L:List Txt}(hT:T F w0 w Γ) (hm:rowP 9 1 (some b) n cap (txts L)∈Γ):strsL w (some ⟨b,0,none⟩) L∧L.length=n∧n≤cap:=T.strs hT hm
theorem strsL.cell {w:World}{b:Nat}{L:List Txt}(h:strsL w (some ⟨b,0,none⟩) L){i:Nat}(hi:i<L.length):w.cell? (Addr.add ⟨b,0,none⟩ (i*1))=some (.string (strB (L.getD i []))):=by
 obtain⟨a,ha,hc⟩:=h.get hi
 cases ha
 exact hc
def kindF (n:Nat) (i:Int):Int:=if i<n then 1 else if i=n then 2 else 3
theorem kind_spec (p:Option Addr) (l c n:Nat) (i:Int) (w:World):Ret Tp 108 #[.agg #[.slice p l c,.int .i64 (n:Int)],.int .i64 i] w (.int .i64 (kindF n i)):=by
 refine ret_of (refill_row_kind_calls ?_)
 unfold refill_row_kind
 refine Alloc.t (T.nil w) fun k w1 h1=>⟨_,h1.ld (i:=1) List.mem_cons_self rfl,dec_t fun h=>⟨by unfold kindF; rw[if_pos h],h1.chg.ext⟩,dec_f fun h=>⟨_,h1.ld (i:=1) List.mem_cons_self rfl,beq_t fun e=>⟨by unfold kindF; rw[if_neg h,if_pos e],h1.chg.ext⟩,beq_f fun e=>⟨by unfold kindF; rw[if_neg h,if_neg e],h1.chg.ext⟩⟩⟩
def byPL (L:List Txt) (i:Nat):List Txt:=L.set i (xorT (L.getD i []) (synP L))
def byQL (L:List Txt) (i:Nat):List Txt:=L.set i (xorT (L.getD i []) (timesL (synQ L) (exI (0-(i:Int)))))
def bothK (L:List Txt) (i k:Nat):Txt:=timesL (xorT (synQ L) (timesL (synP L) (exI i))) (invF (exI i^^^exI k))
def bothL (L:List Txt) (i k:Nat):List Txt:=(L.set k (bothK L i k)).set i (xorT (synP L) (bothK L i k))
section
variable {F:List Nat}{w0 w:World}{Γ:List A}{b cap:Nat}{L:List Txt}
theorem byP_spec (hS:Short L) (h2:2≤L.length) (hn:L.length≤200) (n:Int){i:Nat}(hi:i<L.length) (hT:T F w0 w (rowP 9 1 (some b) L.length cap (txts L)::Γ)):
  Calls Tp 112 #[.agg #[.slice (some ⟨b,0,none⟩) L.length cap,.int .i64 n],.int .i64 (i:Int)] w fun e w'=>e=.returned (.tuple #[])∧T F w0 w' (rowP 9 1 (some b) L.length cap (txts (byPL L i))::Γ):=by
 refine rq (refill_row_byP_calls ?_)
 unfold refill_row_byP
 refine Alloc.t hT fun k w1 h1=>⟨_,_,_,h1.ld (b:=k) (by repeat constructor) rfl,?_⟩
 obtain⟨hs,_,hcap⟩:=T.rowS h1 (b:=b) (L:=L) (by repeat constructor)
 refine(sum_spec hS h2 hn hcap hs).mono fun e w2 ⟨he,hx2⟩=>⟨_,_,he,?_⟩
 have h2':=(h1.quiet hx2).drew
 refine⟨fun w'=>T F w0 w' (blk k #[.slice (some ⟨b,0,none⟩) L.length cap,.int .i64 n] 182::rowP 9 1 (some b) L.length cap (txts L)::Γ),h2',_,_,_,fun w' h=>h.ld (b:=k) (by repeat constructor) rfl,_,_,_,fun w' h=>h.ld (b:=k) (by repeat constructor) rfl,⟨b,0,none⟩,rfl,by omega,by omega,_,fun w' h=>by rw[Int.toNat_natCast]; exact(T.rowS h (b:=b) (L:=L) (by repeat constructor)).1.cell hi,?_⟩
 have l1:=hS.get i
 have l2:=synP_len hS
 refine(xor_spec (strB (L.getD i [])) (strB (synP L)) (by rw[strB_size]; omega) (by rw[strB_size]; omega) _).mono fun e w3 ⟨he,hx3⟩=>⟨_,he,h2'.quiet hx3,⟨b,0,none⟩,rfl,by omega,by omega,?_⟩
 try dsimp only
 rw[Int.toNat_natCast]
 exact StS.t (h2'.quiet hx3) (.tail .head) hi fun w4 h4=>⟨rfl,T.dropAt h4 (.tail .head)⟩
theorem byQ_spec (hS:Short L) (h2:2≤L.length) (hn:L.length≤200) (n:Int){i:Nat}(hi:i<L.length) (hT:T F w0 w (rowP 9 1 (some b) L.length cap (txts L)::Γ)):
  Calls Tp 111 #[.agg #[.slice (some ⟨b,0,none⟩) L.length cap,.int .i64 n],.int .i64 (i:Int)] w fun e w'=>e=.returned (.tuple #[])∧T F w0 w' (rowP 9 1 (some b) L.length cap (txts (byQL L i))::Γ):=by
 refine rq (refill_row_byQ_calls ?_)
 unfold refill_row_byQ
 refine Alloc.t hT fun k w1 h1=>⟨_,_,_,h1.ld (b:=k) (by repeat constructor) rfl,?_⟩
 obtain⟨hs,_,hcap⟩:=T.rowS h1 (b:=b) (L:=L) (by repeat constructor)
 refine(sum_spec hS h2 hn hcap hs).mono fun e w2 ⟨he,hx2⟩=>⟨_,_,he,?_⟩
 have h2':=(h1.quiet hx2).drew
 refine⟨fun w'=>T F w0 w' (blk k #[.slice (some ⟨b,0,none⟩) L.length cap,.int .i64 n] 182::rowP 9 1 (some b) L.length cap (txts L)::Γ),h2',_,_,_,fun w' h=>h.ld (b:=k) (by repeat constructor) rfl,_,_,_,fun w' h=>h.ld (b:=k) (by repeat constructor) rfl,⟨b,0,none⟩,rfl,by omega,by omega,_,fun w' h=>by rw[Int.toNat_natCast]; exact(T.rowS h (b:=b) (L:=L) (by repeat constructor)).1.cell hi,?_⟩
 rw[wrap64 _ (by omega) (by omega)]
 have l1:=hS.get i
 have l2:=synQ_len hS
 refine(exp_spec (0-(i:Int)) _).mono fun e w3 ⟨he,hx3⟩=>⟨_,he,h2'.quiet hx3,?_⟩
 have h3:=h2'.quiet hx3
 refine(times_spec (strB (synQ L)) (exI (0-(i:Int))) (by rw[strB_size]; omega) w3).mono fun e w4 ⟨he,hx4⟩=>⟨_,he,h3.quiet hx4,?_⟩
 have h4:=h3.quiet hx4
 refine(xor_spec (strB (L.getD i [])) (strB (timesL (synQ L) (exI (0-(i:Int))))) (by rw[strB_size]; omega) (by rw[strB_size,timesL_len]; omega) _).mono fun e w5 ⟨he,hx5⟩=>⟨_,he,h4.quiet hx5,⟨b,0,none⟩,rfl,by omega,by omega,?_⟩
 try dsimp only
 rw[Int.toNat_natCast]
 exact StS.t (h4.quiet hx5) (.tail .head) hi fun w6 h6=>⟨rfl,T.dropAt h6 (.tail .head)⟩
theorem both_spec (hS:Short L) (h2:2≤L.length) (hn:L.length≤200) (n:Int){i k:Nat}(hi:i<L.length) (hk:k<L.length) (hT:T F w0 w (rowP 9 1 (some b) L.length cap (txts L)::Γ)):
  Calls Tp 110 #[.agg #[.slice (some ⟨b,0,none⟩) L.length cap,.int .i64 n],.int .i64 (i:Int),.int .i64 (k:Int)] w fun e w'=>e=.returned (.tuple #[])∧T F w0 w' (rowP 9 1 (some b) L.length cap (txts (bothL L i k))::Γ):=by
 refine rq (refill_row_both_calls ?_)
 unfold refill_row_both
 refine Alloc.t hT fun kk w1 h1=>⟨_,_,_,h1.ld (b:=kk) (by repeat constructor) rfl,?_⟩
 obtain⟨hs,_,hcap⟩:=T.rowS h1 (b:=b) (L:=L) (by repeat constructor)
 have l1:=synP_len hS
 have l2:=synQ_len hS
 refine(sum_spec hS h2 hn hcap hs).mono fun e w2 ⟨he,hx2⟩=>⟨_,_,he,?_⟩
 refine(exp_spec (i:Int) w2).mono fun e w3 ⟨he,hx3⟩=>⟨_,he,?_⟩
 refine(exp_spec (k:Int) w3).mono fun e w4 ⟨he,hx4⟩=>⟨_,he,?_⟩
 try dsimp only
 rw[u8_xor]
 refine(inv_spec (exI (i:Int)^^^exI (k:Int)) w4).mono fun e w5 ⟨he,hx5⟩=>⟨_,_,he,?_⟩
 have h5:=((((h1.quiet hx2).quiet hx3).quiet hx4).quiet hx5).drew
 refine⟨fun w'=>T F w0 w' (blk kk #[.slice (some ⟨b,0,none⟩) L.length cap,.int .i64 n] 182::rowP 9 1 (some b) L.length cap (txts L)::Γ),h5,_,_,_,fun w' h=>h.ld (b:=kk) (by repeat constructor) rfl,?_⟩
 refine(exp_spec (i:Int) _).mono fun e w6 ⟨he,hx6⟩=>⟨_,he,h5.quiet hx6,?_⟩
 have h6:=h5.quiet hx6
 refine(times_spec (strB (synP L)) (exI (i:Int)) (by rw[strB_size]; omega) w6).mono fun e w7 ⟨he,hx7⟩=>⟨_,he,h6.quiet hx7,?_⟩
 have h7:=h6.quiet hx7
 have l3:(xorT (synQ L) (timesL (synP L) (exI (i:Int)))).length≤1000000:=by rw[xorT_len,timesL_len]; omega
 refine(xor_spec (strB (synQ L)) (strB (timesL (synP L) (exI (i:Int)))) (by rw[strB_size]; omega) (by rw[strB_size,timesL_len]; omega) _).mono fun e w8 ⟨he,hx8⟩=>⟨_,he,h7.quiet hx8,?_⟩
 have h8:=h7.quiet hx8
 refine(times_spec (strB (xorT (synQ L) (timesL (synP L) (exI (i:Int))))) (invF (exI (i:Int)^^^exI (k:Int))) (by rw[strB_size]; omega) w8).mono fun e w9 ⟨he,hx9⟩=>⟨_,he,h8.quiet hx9,⟨b,0,none⟩,rfl,by omega,by omega,?_⟩
 have h9:=h8.quiet hx9
 try dsimp only
 rw[Int.toNat_natCast]
 refine StS.t (x:=bothK L i k) h9 (.tail .head) hk fun w10 h10=>?_
 have hl10:(L.set k (bothK L i k)).length=L.length:=List.length_set
 have hg:(L.set k (bothK L i k)).getD k []=bothK L i k:=by simp[List.getD,hk]
 refine⟨fun w'=>T F w0 w' (rowP 9 1 (some b) L.length cap (txts (L.set k (bothK L i k)))::blk kk #[.slice (some ⟨b,0,none⟩) L.length cap,.int .i64 n] 182::Γ),h10.drew,_,_,_,fun w' h=>h.ld (b:=kk) (by repeat constructor) rfl,_,_,_,fun w' h=>h.ld (b:=kk) (by repeat constructor) rfl,⟨b,0,none⟩,rfl,by omega,by omega,strB (bothK L i k),fun w' h=>?_,?_⟩
 ·have:=(T.rowS h (b:=b) (L:=L.set k (bothK L i k)) (by repeat constructor)).1.cell (i:=k) (by rw[hl10]; exact hk)
  rw[hg]at this
  exact this
 ·have l4:(bothK L i k).length≤1000000:=by unfold bothK; rw[timesL_len]; exact l3
  refine(xor_spec (strB (synP L)) (strB (bothK L i k)) (by rw[strB_size]; omega) (by rw[strB_size]; omega) _).mono fun e w11 ⟨he,hx11⟩=>⟨_,he,h10.drew.quiet hx11,⟨b,0,none⟩,rfl,by omega,by omega,?_⟩
  try dsimp only
  rw[Int.toNat_natCast]
  exact StS.t (h10.drew.quiet hx11) .head (by rw[hl10]; exact hi) fun w12 h12=>⟨rfl,T.dropAt h12 (.tail .head)⟩
def rparP (L:List Txt):List Txt:=L.set (L.length-2) (sumT (L.take (L.length-2)))
def rparQ (L:List Txt):List Txt:=L.set (L.length-1) (qT (L.take (L.length-2)))
def parF (p q:Bool) (L:List Txt):List Txt:=if q then rparQ (if p then rparP L else L) else if p then rparP L else L
theorem parP_len (L:List Txt):(rparP L).length=L.length:=List.length_set
theorem parP_short (hS:Short L):Short (rparP L):=fun x hx=>by
 rcases List.mem_or_eq_of_mem_set hx with h|h
 ·exact hS x h
 ·rw[h]; exact sAcc_len (hS.take _) _
theorem par_spec {k:Nat}(p q:Bool) (hS:Short L) (h2:2≤L.length) (hn:L.length≤200) (hT:T F w0 w (rowP 9 1 (some b) L.length cap (txts L)::blk k #[.slice (some ⟨b,0,none⟩) L.length cap,.int .i64 ((L.length-2:Nat):Int)] 182::Γ)):
  Calls Tp 109 #[.bool p,.bool q,.pointer (some ⟨k,0,none⟩)] w fun e w'=>e=.returned (.tuple #[])∧T F w0 w' (rowP 9 1 (some b) L.length cap (txts (parF p q L))::blk k #[.slice (some ⟨b,0,none⟩) L.length cap,.int .i64 ((L.length-2:Nat):Int)] 182::Γ):=by
 refine rq (refill_Fill_1_calls ?_)
 unfold refill_Fill_1
 refine Join.intro fun J hJ=>?_
 have e1:IntKind.i64.wrap (((L.length-2:Nat):Int)+1)=((L.length-1:Nat):Int):=by rw[wrap64 _ (by omega) (by omega)]; omega
 have main:∀(L':List Txt) (w':World),L'.length=L.length→Short L'→(if p then rparP L else L)=L'→T F w0 w' (rowP 9 1 (some b) L.length cap (txts L')::blk k #[.slice (some ⟨b,0,none⟩) L.length cap,.int .i64 ((L.length-2:Nat):Int)] 182::Γ)→J [] w':=by
  intro L' w1 hl' hS' hL' h1
  refine hJ _ _ ⟨rfl,fun hq=>?_,fun hq=>?_⟩
  ·have hres:parF p q L=rparQ L':=by unfold parF; rw[if_pos hq,hL']
   obtain⟨hs,_,hcap⟩:=T.rowS h1.drew (b:=b) (L:=L') (by repeat constructor)
   refine⟨fun w'=>T F w0 w' (rowP 9 1 (some b) L.length cap (txts L')::blk k #[.slice (some ⟨b,0,none⟩) L.length cap,.int .i64 ((L.length-2:Nat):Int)] 182::Γ),h1.drew,_,_,_,fun w' h=>h.ld (b:=k) (by repeat constructor) rfl,_,fun w' h=>by rw[addr_add]; exact h.ld (b:=k) (i:=1) (by repeat constructor) rfl,_,_,_,fun w' h=>h.ld (b:=k) (by repeat constructor) rfl,_,fun w' h=>by rw[addr_add]; exact h.ld (b:=k) (i:=1) (by repeat constructor) rfl,_,_,_,fun w' h=>strs_to (by omega) (by omega) w',?_⟩
   rw[Int.toNat_natCast,e1]
   have hst:=hs.take (L.length-2)
   have htl:(L'.take (L.length-2)).length=L.length-2:=by rw[List.length_take]; omega
   have hq:=q_spec (hS'.take (L.length-2)) (by omega) (c:=cap) (by omega) hst
   rw[htl]at hq
   refine hq.mono fun e w2 ⟨he,hx2⟩=>⟨_,he,h1.drew.quiet hx2,⟨b,0,none⟩,rfl,by omega,by omega,?_⟩
   try dsimp only
   rw[Int.toNat_natCast]
   refine StS.t (h1.drew.quiet hx2) .head (by omega) fun w3 h3=>⟨rfl,?_⟩
   rw[hres]
   unfold rparQ
   rw[hl']
   exact h3
  ·have hres:parF p q L=L':=by unfold parF; rw[if_neg (by rw[hq]; decide)]; exact hL'
   rw[hres]
   exact⟨rfl,h1⟩
 refine⟨fun hp=>?_,fun hp=>main L w rfl hS (if_neg (by rw[hp]; decide)) hT⟩
 obtain⟨hs,_,hcap⟩:=T.rowS hT.drew (b:=b) (L:=L) (by repeat constructor)
 refine⟨fun w'=>T F w0 w' (rowP 9 1 (some b) L.length cap (txts L)::blk k #[.slice (some ⟨b,0,none⟩) L.length cap,.int .i64 ((L.length-2:Nat):Int)] 182::Γ),hT.drew,_,_,_,fun w' h=>h.ld (b:=k) (by repeat constructor) rfl,_,fun w' h=>by rw[addr_add]; exact h.ld (b:=k) (i:=1) (by repeat constructor) rfl,_,_,_,fun w' h=>h.ld (b:=k) (by repeat constructor) rfl,_,fun w' h=>by rw[addr_add]; exact h.ld (b:=k) (i:=1) (by repeat constructor) rfl,_,_,_,fun w' h=>strs_to (by omega) (by omega) w',?_⟩
 rw[Int.toNat_natCast]
 have hst:=hs.take (L.length-2)
 have htl:(L.take (L.length-2)).length=L.length-2:=by rw[List.length_take]; omega
 have hpp:=p_spec (hS.take (L.length-2)) (by omega) (c:=cap) hst
 rw[htl]at hpp
 refine hpp.mono fun e w2 ⟨he,hx2⟩=>⟨_,he,hT.drew.quiet hx2,⟨b,0,none⟩,rfl,by omega,by omega,?_⟩
 refine StS.t (hT.drew.quiet hx2) .head (by omega) fun w3 h3=>main (rparP L) w3 (parP_len L) (parP_short hS) (if_pos hp) ?_
 unfold rparP
 exact h3
end
theorem pa0 (a b:Int) (w:World):(part 3 #[.int .i64 a,.int .i64 b] 0).run Tp w=.ok (.int .i64 a) w:=by kernel_rfl
theorem pa1 (a b:Int) (w:World):(part 3 #[.int .i64 a,.int .i64 b] 1).run Tp w=.ok (.int .i64 b) w:=by kernel_rfl
theorem und2 (w:World):(underlying 184).run Tp w=.ok (.array 2 3) w:=by kernel_rfl
theorem siz2 (w:World):(sizeOf 3).run Tp w=.ok 1 w:=by kernel_rfl
theorem eq_int2 (d:Nat) (w:World) (a b:Int):(Op.equalIn (d+1) 3 (.int .i64 a) (.int .i64 b)).run Tp w=.ok (a==b) w:=run_equalIn_int w d 3 .i64 .i64 a b (by kernel_rfl)
theorem eqA (d:Nat) (a b c e:Int) (w:World):(Op.equalIn (d+2) 184 (.agg #[.int .i64 a,.int .i64 b]) (.agg #[.int .i64 c,.int .i64 e])).run Tp w=.ok ((a==c)&&(b==e)) w:=by
 unfold Op.equalIn
 simp only[Sem.run_bind,und2,siz2,Result.andThen_ok]
 simp[List.range',Sem.run_bind,pa0,pa1,eq_int2,Result.andThen_ok]
 cases h1:a==c<;>cases h2:b==e<;>simp_all
theorem eq22 (a b c d:Int) (x y:Operand) (w:World):(do eqGuard .eql 184 x y (.agg #[.int .i64 a,.int .i64 b]) (.agg #[.int .i64 c,.int .i64 d]); binOp .eql 184 (.agg #[.int .i64 a,.int .i64 b]) (.agg #[.int .i64 c,.int .i64 d]):Sem Value).run Tp w=.ok (.bool (decide (a=c∧b=d))) w:=by
 rw[Sem.run_bind,run_eqGuard_agg _ _ _ _ _ _ _ (by kernel_rfl),Result.andThen_ok,run_eql_struct,eqA 9998 a b c d w,Result.andThen_ok]
 congr 2
 rw[Bool.eq_iff_iff]
 simp
def lastLen (L:List Txt) (l:List Int):Nat→Nat
 |0=>0
 |i+1=>if (i:Int)∈l then lastLen L l i else (L.getD i []).length
theorem lastLen_le {L:List Txt}(hS:Short L) (l:List Int):∀i,lastLen L l i≤1000000
 |0=>by simp[lastLen]
 |i+1=>by
  simp only[lastLen]
  split
  ·exact lastLen_le hS l i
  ·exact hS.get i
def zerL (L:List Txt) (l:List Int) (z:Nat):Nat→List Txt
 |0=>L
 |i+1=>(zerL L l z i).set (l.getD i 0).toNat (List.replicate z 0)
theorem zerL_len (L:List Txt) (l:List Int) (z:Nat):∀i,(zerL L l z i).length=L.length
 |0=>rfl
 |i+1=>by simp only[zerL,List.length_set]; exact zerL_len L l z i
theorem set_short {L:List Txt}(hS:Short L){x:Txt}(hx:x.length≤1000000) (i:Nat):Short (L.set i x):=fun y hy=>by
 rcases List.mem_or_eq_of_mem_set hy with h|h
 ·exact hS y h
 ·rw[h]; exact hx
theorem zerL_short {L:List Txt}(hS:Short L) (l:List Int){z:Nat}(hz:z≤1000000):∀i,Short (zerL L l z i)
 |0=>hS
 |i+1=>set_short (zerL_short hS l hz i) (by simpa using hz) _
theorem byPL_short {L:List Txt}(hS:Short L) (i:Nat):Short (byPL L i):=set_short hS (by have:=hS.get i; have:=synP_len hS; rw[xorT_len]; omega) i
theorem byQL_short {L:List Txt}(hS:Short L) (i:Nat):Short (byQL L i):=set_short hS (by have:=hS.get i; have:=synQ_len hS; rw[xorT_len,timesL_len]; omega) i
theorem byPL_len (L:List Txt) (i:Nat):(byPL L i).length=L.length:=List.length_set
theorem byQL_len (L:List Txt) (i:Nat):(byQL L i).length=L.length:=List.length_set
def fillK (a b:Int) (Z:List Txt) (i k:Nat):List Txt:=
 if a=1∧b=1 then bothL Z i k
 else if a=1∧b=2 then parF true false (byQL Z i)
 else if a=1∧b=3 then parF false true (byPL Z i)
 else if a=1∧b=0 then byPL Z i
 else if a=2∧b=3 then parF false true (parF true false Z)
 else if a=3∧b=0 then parF false true Z
 else if a=2∧b=0 then parF true false Z
 else Z
def kindA (n:Nat) (l:List Int) (j i:Nat):Int:=if j<i∧j<l.length then kindF n (l.getD j 0) else 0
def fillS (L:List Txt) (l:List Int):List Txt:=fillK (kindA (L.length-2) l 0 l.length) (kindA (L.length-2) l 1 l.length) (zerL L l (lastLen L l L.length) l.length) (l.getD 0 0).toNat (l.getD 1 0).toNat
def fillF (L:List Txt) (lost:List Int):List Txt:=fillS L (srt lost)
theorem fill_spec {L:List Txt}{lost:List Int}(hl:lost.length≤100000) (hL:L.length≤1000000) (hS:Short L){p q:Option Addr}{c d:Nat}{w:World}(hp:strsL w p L) (hq:intsL w q lost):
  Calls Tp 47 #[.slice p L.length c,.slice q lost.length d] w fun e w'=>(OkM L lost∧lost.length≤2∧∃b cap,e=.returned (.tuple #[.slice (some ⟨b,0,none⟩) L.length cap,.int .i64 0])∧T [] w w' [rowP 9 1 (some b) L.length cap (txts (fillF L lost))])∨
   (∃n:Int,n≠0∧e=.returned (.tuple #[.slice none 0 0,.int .i64 n])∧Ext w w'∧(OkM L lost→2<lost.length∧n=60)∧(¬OkM L lost→n=1)):=by
 refine(refill_Fill_calls (R:=fun v w'=>(OkM L lost∧lost.length≤2∧∃b cap,v=.tuple #[.slice (some ⟨b,0,none⟩) L.length cap,.int .i64 0]∧T [] w w' [rowP 9 1 (some b) L.length cap (txts (fillF L lost))])∨
   (∃n:Int,n≠0∧v=.tuple #[.slice none 0 0,.int .i64 n]∧Ext w w'∧(OkM L lost→2<lost.length∧n=60)∧(¬OkM L lost→n=1))) ?_).mono fun e w' ⟨v,he,h⟩=>by
  rcases h with⟨h1,h2,b,cap,hv,h3⟩|⟨n,h1,hv,h3⟩
  ·exact .inl ⟨h1,h2,b,cap,by rw[he,hv],h3⟩
  ·exact .inr ⟨n,h1,by rw[he,hv],h3⟩
 unfold refill_Fill
 refine(fmay_spec (by omega) hL hS hp hq).mono fun e w1 ⟨n,he,hx1,hok,hno⟩=>⟨n,he,bne_t fun hn=>.inr ⟨n,hn,rfl,hx1,fun hk=>?_,hno⟩,bne_f fun hn=>?_⟩
 ·have:=hok hk
  by_cases h:lost.length>2
  ·rw[if_pos h]at this; exact⟨h,this⟩
  ·rw[if_neg h]at this; exact absurd this hn
 have hk:OkM L lost:=Classical.byContradiction fun h=>by have:=hno h; omega
 have h2:lost.length≤2:=by
  have:=hok hk
  by_cases h:lost.length>2
  ·rw[if_pos h]at this; omega
  ·omega
 have n4:=hk.n4; have n10:=hk.n10
 have h2l:=h2
 refine(values_spec (l:=lost) ((T.nil w).quiet hx1)).mono fun e w2 ⟨kv,he,hv2⟩=>⟨_,he,?_⟩
 refine(sorted_spec hl (fun w' hx=>hq.ext hx) hv2).mono fun e w3 ⟨g,capl,he,h3⟩=>⟨_,_,_,he,?_⟩
 refine(clone_spec hL h3 hp).mono fun e w4 ⟨gr,cap,he,h4⟩=>⟨_,_,_,he,?_⟩
 obtain⟨b,rfl⟩:∃b,gr=some b:=rowP.pos (h4.says List.mem_cons_self) (by omega)
 have hlen:(srt lost).length=lost.length:=srt_len lost
 have hrng:∀x∈srt lost,0≤x∧x<(L.length:Int):=fun x hx=>hk.rng x ((srt_mem lost x).1 hx)
 show Alloc _ _ _ _
 have hgoal:fillF L lost=fillS L (srt lost):=rfl
 rw[hgoal]
 rw[←hlen]at h3 h4 h2⊢
 generalize hls:srt lost=l at h3 h4 hrng h2⊢
 refine Alloc.t h4 fun k8 w5 h5=>?_
 refine St.t h5 (by repeat constructor) (by simp) (by rfl) rfl fun w6 h6=>?_
 rw[show IntKind.i64.wrap ((L.length:Int)-2)=((L.length-2:Nat):Int) by rw[wrap64 _ (by omega) (by omega)]; omega]
 refine St.t h6 (by repeat constructor) (by simp) (by rfl) rfl fun w7 h7=>?_
 have h7:T [] w w7 (blk k8 #[.slice (some ⟨b,0,none⟩) L.length cap,.int .i64 ((L.length-2:Nat):Int)] 182::rowP 9 1 (some b) L.length cap (txts L)::[rowP 3 1 g l.length capl (intsI l)]):=h7
 have hli:∀{w':World} {Γ':List A},T [] w w' Γ'→rowP 3 1 g l.length capl (intsI l)∈Γ'→intsL w' (ptr g) l:=fun h m=>(T.ints h m).1
 refine⟨fun vs w'=>∃i:Nat,vs=[.int .i64 (lastLen L l i:Int),.int .i64 (i:Int)]∧i≤L.length∧T [] w w' (blk k8 #[.slice (some ⟨b,0,none⟩) L.length cap,.int .i64 ((L.length-2:Nat):Int)] 182::rowP 9 1 (some b) L.length cap (txts L)::[rowP 3 1 g l.length capl (intsI l)]),fun vs _=>match vs with|[_,.int _ i]=>(L.length-i).toNat|_=>0,⟨0,rfl,by omega,h7⟩,?_⟩
 rintro vs w8 ⟨i,rfl,hi,h8⟩
 refine⟨_,_,rfl,dec_t fun hlt=>?_,dec_f fun hge=>?_⟩
 ·have hlt:i<L.length:=by omega
  obtain⟨a,ha,hc⟩:=(hp.ext h8.chg.ext).get hlt
  have hms:((L.length:Int)-IntKind.i64.wrap ((i:Int)+1)).toNat<((L.length:Int)-(i:Int)).toNat:=by rw[wrap64 _ (by omega) (by omega)]; omega
  have hnx:IntKind.i64.wrap ((i:Int)+1)=((i+1:Nat):Int):=by rw[wrap64 _ (by omega) (by omega)]; omega
  refine⟨a,ha,by omega,by omega,_,by rw[Int.toNat_natCast]; exact hc,?_⟩
  refine(contains_spec (by omega) (i:Int) (hli h8 (by repeat constructor))).mono fun e w9 ⟨he,hx9⟩=>⟨_,he,?_,?_⟩
  ·intro hb
   have hm:(i:Int)∉l:=of_decide_eq_false (nott hb)
   refine⟨⟨i+1,?_,by omega,h8.quiet hx9⟩,hms⟩
   rw[hnx,strB_size]
   simp only[lastLen,if_neg hm]
  ·intro hb
   have hm:(i:Int)∈l:=of_decide_eq_true (notf hb)
   refine⟨⟨i+1,?_,by omega,h8.quiet hx9⟩,hms⟩
   rw[hnx]
   simp only[lastLen,if_pos hm]
 have hie:i=L.length:=by omega
 subst hie
 have hz:=lastLen_le hS l L.length
 generalize hzz:lastLen L l L.length=z at hz
 refine⟨fun vs w'=>∃i:Nat,vs=[.int .i64 (i:Int)]∧i≤l.length∧T [] w w' (rowP 9 1 (some b) L.length cap (txts (zerL L l z i))::blk k8 #[.slice (some ⟨b,0,none⟩) L.length cap,.int .i64 ((L.length-2:Nat):Int)] 182::[rowP 3 1 g l.length capl (intsI l)]),fun vs _=>match vs with|[.int _ i]=>(l.length-i).toNat|_=>0,⟨0,rfl,by omega,h8.swap (.swap _ _ _)⟩,?_⟩
 rintro vs w10 ⟨i,rfl,hi,h10⟩
 refine⟨_,rfl,dec_t fun hlt=>?_,dec_f fun hge=>?_⟩
 ·have hlt:i<l.length:=by omega
  obtain⟨a,ha,hc⟩:=(hli h10 (by repeat constructor)).get hlt
  have hgm:l.getD i 0∈l:=by simp[List.getD,hlt]
  have hr:=hrng _ hgm
  refine⟨a,ha,by omega,by omega,_,by rw[Int.toNat_natCast]; exact hc,?_⟩
  refine⟨fun w'=>T [] w w' (rowP 9 1 (some b) L.length cap (txts (zerL L l z i))::blk k8 #[.slice (some ⟨b,0,none⟩) L.length cap,.int .i64 ((L.length-2:Nat):Int)] 182::[rowP 3 1 g l.length capl (intsI l)]),h10.drew,_,_,_,fun w' h=>h.ld (b:=k8) (by repeat constructor) rfl,?_⟩
  refine(repeat_spec z hz _).mono fun e w11 ⟨he,hx11⟩=>⟨_,he,h10.drew.quiet hx11,⟨b,0,none⟩,rfl,by omega,by omega,?_⟩
  refine StS.t (h10.drew.quiet hx11) .head (by rw[zerL_len]; omega) fun w12 h12=>⟨⟨i+1,?_,by omega,h12⟩,?_⟩
  ·rw[wrap64 _ (by omega) (by omega)]; rfl
  ·show((l.length:Int)-IntKind.i64.wrap ((i:Int)+1)).toNat<((l.length:Int)-(i:Int)).toNat
   rw[wrap64 _ (by omega) (by omega)]; omega
 have hie:i=l.length:=by omega
 subst hie
 have hZl:(zerL L l z l.length).length=L.length:=zerL_len L l z _
 have hZS:Short (zerL L l z l.length):=zerL_short hS l hz _
 have hfs:fillS L l=fillK (kindA (L.length-2) l 0 l.length) (kindA (L.length-2) l 1 l.length) (zerL L l z l.length) (l.getD 0 0).toNat (l.getD 1 0).toNat:=by unfold fillS; rw[hzz]
 rw[hfs]
 generalize zerL L l z l.length=Z at h10 hZl hZS⊢
 refine Alloc.t h10 fun k14 w13 h13=>?_
 refine⟨fun vs w'=>∃i:Nat,vs=[.int .i64 (i:Int)]∧i≤l.length∧T [] w w' (blk k14 #[.int .i64 (kindA (L.length-2) l 0 i),.int .i64 (kindA (L.length-2) l 1 i)] 184::rowP 9 1 (some b) L.length cap (txts Z)::blk k8 #[.slice (some ⟨b,0,none⟩) L.length cap,.int .i64 ((L.length-2:Nat):Int)] 182::[rowP 3 1 g l.length capl (intsI l)]),fun vs _=>match vs with|[.int _ i]=>(l.length-i).toNat|_=>0,⟨0,rfl,by omega,by simpa[kindA] using h13⟩,?_⟩
 rintro vs w14 ⟨i,rfl,hi,h14⟩
 refine⟨_,rfl,dec_t fun hlt=>?_,dec_f fun hge=>?_⟩
 ·have hlt:i<l.length:=by omega
  obtain⟨a,ha,hc⟩:=(hli h14 (by repeat constructor)).get hlt
  refine⟨a,ha,by omega,by omega,_,by rw[Int.toNat_natCast]; exact hc,_,_,_,_,⟨h14.ld (b:=k8) (by repeat constructor) rfl,h14.ld (b:=k8) (i:=1) (by repeat constructor) rfl⟩,?_⟩
  refine(kind_spec (some ⟨b,0,none⟩) L.length cap (L.length-2) (l.getD i 0) w14).mono fun e w15 ⟨he,hx15⟩=>⟨_,he,by omega,by omega,?_⟩
  try dsimp only
  rw[addr_add,Nat.zero_add,Nat.mul_one,Int.toNat_natCast]
  refine St.t (h14.quiet hx15) .head (by show i<2; omega) rfl rfl fun w16 h16=>⟨⟨i+1,?_,by omega,?_⟩,?_⟩
  ·rw[wrap64 _ (by omega) (by omega)]; rfl
  ·have hi2:i=0∨i=1:=by omega
   rcases hi2 with rfl|rfl
   ·have e0:kindA (L.length-2) l 0 1=kindF (L.length-2) (l.getD 0 0):=by unfold kindA; rw[if_pos (by omega)]
    have e1:kindA (L.length-2) l 1 1=kindA (L.length-2) l 1 0:=by unfold kindA; rw[if_neg (by omega),if_neg (by omega)]
    rw[e0,e1]; exact h16
   ·have e0:kindA (L.length-2) l 0 2=kindA (L.length-2) l 0 1:=by unfold kindA; rw[if_pos (by omega),if_pos (by omega)]
    have e1:kindA (L.length-2) l 1 2=kindF (L.length-2) (l.getD 1 0):=by unfold kindA; rw[if_pos (by omega)]
    rw[e0,e1]; exact h16
  ·show((l.length:Int)-IntKind.i64.wrap ((i:Int)+1)).toNat<((l.length:Int)-(i:Int)).toNat
   rw[wrap64 _ (by omega) (by omega)]; omega
 have hie:i=l.length:=by omega
 subst hie
 generalize ha:kindA (L.length-2) l 0 l.length=a at h14⊢
 generalize hb:kindA (L.length-2) l 1 l.length=bb at h14⊢
 have ha1:a=1→0<l.length∧0≤l.getD 0 0∧l.getD 0 0<(L.length:Int):=fun h=>by
  unfold kindA at ha
  by_cases h':0<l.length∧0<l.length
  ·refine⟨h'.1,hrng _ (by simp[List.getD,h'.1])⟩
  ·rw[if_neg h']at ha; omega
 have hb1:bb≠0→1<l.length∧0≤l.getD 1 0∧l.getD 1 0<(L.length:Int):=fun h=>by
  unfold kindA at hb
  by_cases h':1<l.length∧1<l.length
  ·refine⟨h'.1,hrng _ (by simp[List.getD,h'.1])⟩
  ·rw[if_neg h']at hb; omega
 clear ha hb
 have i0:0≤l.getD 0 0→(((l.getD 0 0).toNat:Nat):Int)=l.getD 0 0:=fun h=>by omega
 have i1:0≤l.getD 1 0→(((l.getD 1 0).toNat:Nat):Int)=l.getD 1 0:=fun h=>by omega
 generalize hRR:fillK a bb Z (l.getD 0 0).toNat (l.getD 1 0).toNat=RR
 refine Join.intro fun J hJ=>?_
 have fin:∀(w':World) {Γ:List A},T [] w w' (rowP 9 1 (some b) L.length cap (txts RR)::blk k8 #[.slice (some ⟨b,0,none⟩) L.length cap,.int .i64 ((L.length-2:Nat):Int)] 182::Γ)→J [] w':=fun w' Γ h=>by
  refine hJ _ _ ⟨rfl,_,_,_,h.ld (b:=k8) (by repeat constructor) rfl,.inl ⟨hk,h2,b,cap,rfl,?_⟩⟩
  have:T [] w w' ([rowP 9 1 (some b) L.length cap (txts RR)]++(blk k8 #[.slice (some ⟨b,0,none⟩) L.length cap,.int .i64 ((L.length-2:Nat):Int)] 182::Γ)):=h
  exact T.dropAll (this.swap List.perm_append_comm)
 have hN:T [] w w14 (rowP 9 1 (some b) L.length cap (txts Z)::blk k8 #[.slice (some ⟨b,0,none⟩) L.length cap,.int .i64 ((L.length-2:Nat):Int)] 182::[rowP 3 1 g l.length capl (intsI l)]):=h14.drop
 have rdK:∀{w':World},w'=w14→(w'.cell? ⟨k14,0,none⟩=some (.int .i64 a)∧w'.cell? ⟨k14,1,none⟩=some (.int .i64 bb)):=fun e=>by subst e; exact⟨h14.ld (b:=k14) (by repeat constructor) rfl,h14.ld (b:=k14) (i:=1) (by repeat constructor) rfl⟩
 have rdL:∀{w':World} {Γ':List A} (j:Nat),j<l.length→T [] w w' Γ'→rowP 3 1 g l.length capl (intsI l)∈Γ'→∃bl,g=some bl∧w'.cell? ⟨bl,j,none⟩=some (.int .i64 (l.getD j 0)):=fun j hj h hm=>by
  obtain⟨a',ha',hc⟩:=(hli h hm).get hj
  cases g with
  |none=>cases ha'
  |some bl=>
   cases ha'
   rw[addr_add,Nat.zero_add,Nat.mul_one]at hc
   exact⟨bl,rfl,hc⟩
 have doPar:∀(pp qq:Bool) (Y:List Txt) (w':World) {Γ0:List A},Y.length=L.length→Short Y→T [] w w' (rowP 9 1 (some b) L.length cap (txts Y)::blk k8 #[.slice (some ⟨b,0,none⟩) L.length cap,.int .i64 ((L.length-2:Nat):Int)] 182::Γ0)→
   Calls Tp 109 #[.bool pp,.bool qq,.pointer (some ⟨k8,0,none⟩)] w' fun e w2=>e=.returned (.tuple #[])∧T [] w w2 (rowP 9 1 (some b) L.length cap (txts (parF pp qq Y))::blk k8 #[.slice (some ⟨b,0,none⟩) L.length cap,.int .i64 ((L.length-2:Nat):Int)] 182::Γ0):=fun pp qq Y w' Γ0 hY hYS h=>by
  rw[←hY]at h⊢
  exact par_spec pp qq hYS (by omega) (by omega) h
 have doP:∀(i:Nat) (w':World) {Γ0:List A},i<L.length→T [] w w' (rowP 9 1 (some b) L.length cap (txts Z)::Γ0)→Calls Tp 112 #[.agg #[.slice (some ⟨b,0,none⟩) L.length cap,.int .i64 ((L.length-2:Nat):Int)],.int .i64 (i:Int)] w' fun e w2=>e=.returned (.tuple #[])∧T [] w w2 (rowP 9 1 (some b) L.length cap (txts (byPL Z i))::Γ0):=fun i w' Γ0 hi h=>by
  rw[←hZl]at h hi⊢
  exact byP_spec hZS (by omega) (by omega) _ hi h
 have doQ:∀(i:Nat) (w':World) {Γ0:List A},i<L.length→T [] w w' (rowP 9 1 (some b) L.length cap (txts Z)::Γ0)→Calls Tp 111 #[.agg #[.slice (some ⟨b,0,none⟩) L.length cap,.int .i64 ((L.length-2:Nat):Int)],.int .i64 (i:Int)] w' fun e w2=>e=.returned (.tuple #[])∧T [] w w2 (rowP 9 1 (some b) L.length cap (txts (byQL Z i))::Γ0):=fun i w' Γ0 hi h=>by
  rw[←hZl]at h hi⊢
  exact byQ_spec hZS (by omega) (by omega) _ hi h
 have doB:∀(i k:Nat) (w':World) {Γ0:List A},i<L.length→k<L.length→T [] w w' (rowP 9 1 (some b) L.length cap (txts Z)::Γ0)→Calls Tp 110 #[.agg #[.slice (some ⟨b,0,none⟩) L.length cap,.int .i64 ((L.length-2:Nat):Int)],.int .i64 (i:Int),.int .i64 (k:Int)] w' fun e w2=>e=.returned (.tuple #[])∧T [] w w2 (rowP 9 1 (some b) L.length cap (txts (bothL Z i k))::Γ0):=fun i k w' Γ0 hi hk' h=>by
  rw[←hZl]at h hi hk'⊢
  exact both_spec hZS (by omega) (by omega) _ hi hk' h
 refine⟨a,bb,rdK rfl,decide (a=1∧bb=1),w14,eq22 _ _ _ _ _ _ w14,dec_t fun h=>?_,dec_f fun c1=>?_⟩
 ·obtain⟨hl0,h00,h01⟩:=ha1 h.1
  obtain⟨hl1,h10',h11⟩:=hb1 (by omega)
  obtain⟨bl,rfl,_⟩:=rdL 0 hl0 hN (by repeat constructor)
  refine⟨fun w'=>T [] w w' (rowP 9 1 (some b) L.length cap (txts Z)::blk k8 #[.slice (some ⟨b,0,none⟩) L.length cap,.int .i64 ((L.length-2:Nat):Int)] 182::[rowP 3 1 (some bl) l.length capl (intsI l)]),hN.drew,_,_,_,_,fun w' h=>⟨h.ld (b:=k8) (by repeat constructor) rfl,h.ld (b:=k8) (i:=1) (by repeat constructor) rfl⟩,⟨bl,0,none⟩,rfl,by omega,by omega,(((l.getD 0 0).toNat:Nat):Int),fun w' h=>?_,⟨bl,0,none⟩,rfl,by omega,by omega,(((l.getD 1 0).toNat:Nat):Int),fun w' h=>?_,?_⟩
  ·obtain⟨bl',e,hc⟩:=rdL 0 hl0 h (by repeat constructor)
   cases e; rw[i0 h00]; exact hc
  ·obtain⟨bl',e,hc⟩:=rdL 1 hl1 h (by repeat constructor)
   cases e; rw[i1 h10',addr_add]; exact hc
  ·refine(doB (l.getD 0 0).toNat (l.getD 1 0).toNat _ (by omega) (by omega) hN.drew).mono fun e w2 ⟨he,hz2⟩=>⟨he,fin (Γ:=[rowP 3 1 (some bl) l.length capl (intsI l)]) w2 ?_⟩
   try dsimp only
   rw[←hRR]; unfold fillK; rw[if_pos h]; exact hz2
 refine⟨a,bb,rdK rfl,decide (a=1∧bb=2),w14,eq22 _ _ _ _ _ _ w14,dec_t fun h=>?_,dec_f fun c2=>?_⟩
 ·obtain⟨hl0,h00,h01⟩:=ha1 h.1
  obtain⟨bl,rfl,_⟩:=rdL 0 hl0 hN (by repeat constructor)
  refine⟨fun w'=>T [] w w' (rowP 9 1 (some b) L.length cap (txts Z)::blk k8 #[.slice (some ⟨b,0,none⟩) L.length cap,.int .i64 ((L.length-2:Nat):Int)] 182::[rowP 3 1 (some bl) l.length capl (intsI l)]),hN.drew,_,_,_,_,fun w' h=>⟨h.ld (b:=k8) (by repeat constructor) rfl,h.ld (b:=k8) (i:=1) (by repeat constructor) rfl⟩,⟨bl,0,none⟩,rfl,by omega,by omega,(((l.getD 0 0).toNat:Nat):Int),fun w' h=>?_,?_⟩
  ·obtain⟨bl',e,hc⟩:=rdL 0 hl0 h (by repeat constructor)
   cases e; rw[i0 h00]; exact hc
  ·refine(doQ (l.getD 0 0).toNat _ (by omega) hN.drew).mono fun e w2 ⟨he,hz2⟩=>⟨he,?_⟩
   refine(doPar true false _ w2 (by rw[byQL_len]; exact hZl) (byQL_short hZS _) hz2).mono fun e w3 ⟨he,hz3⟩=>⟨he,fin (Γ:=[rowP 3 1 (some bl) l.length capl (intsI l)]) w3 ?_⟩
   try dsimp only
   rw[←hRR]; unfold fillK; rw[if_neg c1,if_pos h]; exact hz3
 refine⟨a,bb,rdK rfl,decide (a=1∧bb=3),w14,eq22 _ _ _ _ _ _ w14,dec_t fun h=>?_,dec_f fun c3=>?_⟩
 ·obtain⟨hl0,h00,h01⟩:=ha1 h.1
  obtain⟨bl,rfl,_⟩:=rdL 0 hl0 hN (by repeat constructor)
  refine⟨fun w'=>T [] w w' (rowP 9 1 (some b) L.length cap (txts Z)::blk k8 #[.slice (some ⟨b,0,none⟩) L.length cap,.int .i64 ((L.length-2:Nat):Int)] 182::[rowP 3 1 (some bl) l.length capl (intsI l)]),hN.drew,_,_,_,_,fun w' h=>⟨h.ld (b:=k8) (by repeat constructor) rfl,h.ld (b:=k8) (i:=1) (by repeat constructor) rfl⟩,⟨bl,0,none⟩,rfl,by omega,by omega,(((l.getD 0 0).toNat:Nat):Int),fun w' h=>?_,?_⟩
  ·obtain⟨bl',e,hc⟩:=rdL 0 hl0 h (by repeat constructor)
   cases e; rw[i0 h00]; exact hc
  ·refine(doP (l.getD 0 0).toNat _ (by omega) hN.drew).mono fun e w2 ⟨he,hz2⟩=>⟨he,?_⟩
   refine(doPar false true _ w2 (by rw[byPL_len]; exact hZl) (byPL_short hZS _) hz2).mono fun e w3 ⟨he,hz3⟩=>⟨he,fin (Γ:=[rowP 3 1 (some bl) l.length capl (intsI l)]) w3 ?_⟩
   try dsimp only
   rw[←hRR]; unfold fillK; rw[if_neg c1,if_neg c2,if_pos h]; exact hz3
 refine⟨a,bb,rdK rfl,decide (a=1∧bb=0),w14,eq22 _ _ _ _ _ _ w14,dec_t fun h=>?_,dec_f fun c4=>?_⟩
 ·obtain⟨hl0,h00,h01⟩:=ha1 h.1
  obtain⟨bl,rfl,_⟩:=rdL 0 hl0 hN (by repeat constructor)
  refine⟨fun w'=>T [] w w' (rowP 9 1 (some b) L.length cap (txts Z)::blk k8 #[.slice (some ⟨b,0,none⟩) L.length cap,.int .i64 ((L.length-2:Nat):Int)] 182::[rowP 3 1 (some bl) l.length capl (intsI l)]),hN.drew,_,_,_,_,fun w' h=>⟨h.ld (b:=k8) (by repeat constructor) rfl,h.ld (b:=k8) (i:=1) (by repeat constructor) rfl⟩,⟨bl,0,none⟩,rfl,by omega,by omega,(((l.getD 0 0).toNat:Nat):Int),fun w' h=>?_,?_⟩
  ·obtain⟨bl',e,hc⟩:=rdL 0 hl0 h (by repeat constructor)
   cases e; rw[i0 h00]; exact hc
  ·refine(doP (l.getD 0 0).toNat _ (by omega) hN.drew).mono fun e w2 ⟨he,hz2⟩=>⟨he,fin (Γ:=[rowP 3 1 (some bl) l.length capl (intsI l)]) w2 ?_⟩
   try dsimp only
   rw[←hRR]; unfold fillK; rw[if_neg c1,if_neg c2,if_neg c3,if_pos h]; exact hz2
 refine⟨a,bb,rdK rfl,decide (a=2∧bb=3),w14,eq22 _ _ _ _ _ _ w14,dec_t fun h=>?_,dec_f fun c5=>?_⟩
 ·refine(doPar true false Z w14 hZl hZS hN).mono fun e w2 ⟨he,hz2⟩=>⟨he,?_⟩
  refine(doPar false true _ w2 (by show(rparP Z).length=_; rw[parP_len]; exact hZl) (parP_short hZS) hz2).mono fun e w3 ⟨he,hz3⟩=>⟨he,fin (Γ:=[rowP 3 1 g l.length capl (intsI l)]) w3 ?_⟩
  try dsimp only
  rw[←hRR]; unfold fillK; rw[if_neg c1,if_neg c2,if_neg c3,if_neg c4,if_pos h]; exact hz3
 refine⟨a,bb,rdK rfl,decide (a=3∧bb=0),w14,eq22 _ _ _ _ _ _ w14,dec_t fun h=>?_,dec_f fun c6=>?_⟩
 ·refine(doPar false true Z w14 hZl hZS hN).mono fun e w2 ⟨he,hz2⟩=>⟨he,fin (Γ:=[rowP 3 1 g l.length capl (intsI l)]) w2 ?_⟩
  try dsimp only
  rw[←hRR]; unfold fillK; rw[if_neg c1,if_neg c2,if_neg c3,if_neg c4,if_neg c5,if_pos h]; exact hz2
 refine⟨a,bb,rdK rfl,decide (a=2∧bb=0),w14,eq22 _ _ _ _ _ _ w14,dec_t fun h=>?_,dec_f fun c7=>?_⟩
 ·refine(doPar true false Z w14 hZl hZS hN).mono fun e w2 ⟨he,hz2⟩=>⟨he,fin (Γ:=[rowP 3 1 g l.length capl (intsI l)]) w2 ?_⟩
  try dsimp only
  rw[←hRR]; unfold fillK; rw[if_neg c1,if_neg c2,if_neg c3,if_neg c4,if_neg c5,if_neg c6,if_pos h]; exact hz2
 refine fin (Γ:=[rowP 3 1 g l.length capl (intsI l)]) w14 ?_
 rw[←hRR]; unfold fillK; rw[if_neg c1,if_neg c2,if_neg c3,if_neg c4,if_neg c5,if_neg c6,if_neg c7]; exact hN
structure RwS where
 c:Int
 k:Int
 r:Int
 pd:Option Addr
 cd:Nat
 pb:Option Addr
 cb:Nat
def rwC (s:RwS) (n m:Nat):Array Value:=#[.int .i64 s.c,.int .i64 s.k,.int .i64 s.r,.slice s.pd n s.cd,.slice s.pb m s.cb]
def plC (s:RwS) (n m:Nat) (row off:Int):Array Value:=#[.int .i64 s.c,.int .i64 s.k,.int .i64 s.r,.slice s.pd n s.cd,.slice s.pb m s.cb,.int .i64 row,.int .i64 off]
def plZ:Array Value:=#[.int .i64 0,.int .i64 0,.int .i64 0,.slice none 0 0,.slice none 0 0,.int .i64 0,.int .i64 0]
def ptrsAt (w:World) (p:Option Addr) (ps:List (Option Nat)):Prop:=(ps≠[]→∃a,p=some a)∧∀a,p=some a→∀j x,ps[j]?=some x→w.cell? (a.add j)=some (.pointer (ptr x))
theorem ptrsAt.ext {w w':World}{p:Option Addr}{ps:List (Option Nat)}(h:ptrsAt w p ps) (hx:Ext w w'):ptrsAt w' p ps:=⟨h.1,fun a ha j x hj=>cell_ext hx (h.2 a ha j x hj)⟩
theorem ptrsAt.get {w:World}{p:Option Addr}{ps:List (Option Nat)}(h:ptrsAt w p ps){n:Nat}{x:Option Nat}(hn:ps[n]?=some x):∃a,p=some a∧w.cell? (a.add (n*1))=some (.pointer (ptr x)):=by
 obtain⟨a,ha⟩:=h.1 (by intro e; subst e; simp at hn)
 exact⟨a,ha,by rw[Nat.mul_one]; exact h.2 a ha n x hn⟩
theorem intsL.ext' {w w':World}{p:Option Addr}{l:List Int}(h:intsL w p l) (hx:Ext w w'):intsL w' p l:=⟨h.1,fun a ha j x hj=>cell_ext hx (h.2 a ha j x hj)⟩
theorem intsL.get' {w:World}{p:Option Addr}{l:List Int}(h:intsL w p l){n:Nat}(hn:n<l.length):∃a,p=some a∧w.cell? (a.add (n*1))=some (.int .i64 l[n]):=by
 obtain⟨a,ha⟩:=h.1 (by intro e; subst e; simp at hn)
 exact⟨a,ha,by rw[Nat.mul_one]; exact h.2 a ha n _ (List.getElem?_eq_getElem hn)⟩
structure RwW (s:RwS) (ds:List Od) (bu:List Int) (w:World):Prop where
 ow:∃F w0 X,Ow (dsK ds) F w0 w X
 pd:ptrsAt w s.pd (blks ds)
 pb:intsL w s.pb bu
theorem RwW.ext {s:RwS}{ds:List Od}{bu:List Int}{w w':World}(h:RwW s ds bu w) (hx:Ext w w'):RwW s ds bu w':=by
 obtain⟨⟨F,w0,X,H⟩,h2,h3⟩:=h
 exact⟨⟨F,w0,X,H.quiet hx⟩,h2.ext hx,h3.ext' hx⟩
def RMay (s:RwS) (ds:List Od) (bu:List Int):Prop:=OkG s.c s.k s.r∧(ds.length:Int)=s.c∧(bu.length:Int)=s.c∧∀y∈ds,∀x,y=some x→needG s.c s.k s.r≤(x.2.safe.length:Int)
def smallO (s:RwS) (y:Od):Bool:=match y with
 |some x=>decide ((x.2.safe.length:Int)<needG s.c s.k s.r)
 |none=>false
instance (s:RwS) (ds:List Od) (bu:List Int):Decidable (RMay s ds bu):=by
 have e:RMay s ds bu↔OkG s.c s.k s.r∧(ds.length:Int)=s.c∧(bu.length:Int)=s.c∧ds.any (smallO s)=false:=by
  unfold RMay
  refine and_congr_right fun _=>and_congr_right fun _=>and_congr_right fun _=>⟨fun h=>?_,fun h y hy x hx=>?_⟩
  ·rw[Bool.eq_false_iff]
   intro ht
   obtain⟨y,hy,hs⟩:=List.any_eq_true.1 ht
   cases y with
   |none=>cases hs
   |some x=>
    have:=h _ hy x rfl
    have:=of_decide_eq_true hs
    omega
  ·subst hx
   have h1:¬smallO s (some x)=true:=fun ht=>by rw[List.any_eq_true.2 ⟨_,hy,ht⟩]at h; cases h
   have h2:¬((x.2.safe.length:Int)<needG s.c s.k s.r):=fun hh=>h1 (decide_eq_true hh)
   omega
 unfold OkG at e
 exact decidable_of_iff' _ e
theorem rmay_any {s:RwS}{ds:List Od}{bu:List Int}(h1:OkG s.c s.k s.r) (h2:(ds.length:Int)=s.c) (h3:(bu.length:Int)=s.c):RMay s ds bu↔ds.any (smallO s)=false:=by
 unfold RMay
 constructor
 ·intro h
  rw[Bool.eq_false_iff]
  intro ht
  obtain⟨y,hy,hs⟩:=List.any_eq_true.1 ht
  cases y with
  |none=>cases hs
  |some x=>
   have:=h.2.2.2 _ hy x rfl
   have:=of_decide_eq_true hs
   omega
 ·intro h
  refine⟨h1,h2,h3,fun y hy x hx=>?_⟩
  subst hx
  have h1:¬smallO s (some x)=true:=fun ht=>by rw[List.any_eq_true.2 ⟨_,hy,ht⟩]at h; cases h
  have h2:¬((x.2.safe.length:Int)<needG s.c s.k s.r):=fun hh=>h1 (decide_eq_true hh)
  omega
theorem rsectors_spec {q:Nat}{a:AD}{F:List Nat}{w0 w:World}{X:List A}(h:Dr q a F w0 w X):Ret Tp 73 #[.pointer (some ⟨q,0,none⟩)] w (.int .i64 (a.safe.length:Int)):=by
 obtain⟨D,rfl,hA,hT⟩:=h
 refine ret_of (drive_Drive_Sectors_calls ?_)
 unfold drive_Drive_Sectors
 refine⟨_,rfl,_,_,_,hT.ld (b:=D.p) (List.mem_append_right _ (List.mem_append_left _ List.mem_cons_self)) rfl,?_,Ext.refl w⟩
 rw[hA.safe]
theorem RwW.drive {s:RwS}{ds:List Od}{bu:List Int}{w:World}(h:RwW s ds bu w){k p:Nat}{a:AD}(hk:ds[k]?=some (some (p,a))):∃F w0 X,Dr p a F w0 w X:=by
 obtain⟨⟨F,w0,X,H⟩,_,_⟩:=h
 obtain⟨Z,h1,_⟩:=Ow.drive H hk
 exact⟨F,w0,_,h1⟩
theorem small_spec {s:RwS}{ds:List Od}{bu:List Int}{w0 w:World}(h:RwW s ds bu w){n m k1:Nat}{Γ:List A}(hT:T [] w0 w Γ) (hm:blk k1 (rwC s n m) 31∈Γ){i:Nat}{y:Od}(hy:ds[i]?=some y):
  Calls Tp 133 #[.pointer (ptr (odB y)),.pointer (some ⟨k1,0,none⟩)] w fun e w'=>e=.returned (.bool (smallO s y))∧Ext w w':=by
 refine rq (row_May_1_calls ?_)
 unfold row_May_1
 have hdx:Ext w w.drew:=((T.nil w).drew).chg.ext
 refine⟨fun w'=>T [] w0 w' Γ,hT.drew,?_⟩
 cases y with
 |none=>exact no rfl ⟨rfl,hdx⟩
 |some x=>
  obtain⟨p,a⟩:=x
  obtain⟨F,w0',X,hd⟩:=(h.ext hdx).drive hy
  refine⟨fun _=>?_,fun hh=>by cases hh⟩
  refine(rsectors_spec hd).mono fun e w1 ⟨he1,hx1⟩=>⟨_,he1,hT.drew.quiet hx1,s.c,s.k,s.r,fun w' h'=>⟨h'.ld (c:=rwC s n m) hm rfl,by rw[addr_add]; exact h'.ld (c:=rwC s n m) (i:=0+1) hm rfl,by rw[addr_add]; exact h'.ld (c:=rwC s n m) (i:=0+2) hm rfl⟩,?_⟩
  exact(need_spec s.c s.k s.r w1).mono fun e w2 ⟨he2,hx2⟩=>⟨_,he2,(hT.drew.quiet hx1).quiet hx2,rfl,(hdx.trans hx1).trans hx2⟩
theorem indexD_spec {s:RwS}{ds:List Od}{bu:List Int}{w0 w:World}(h:RwW s ds bu w) (hl:ds.length≤1000000){n m k1 c:Nat}{Γ:List A}(hT:T [] w0 w Γ) (hm:blk k1 (rwC s n m) 31∈Γ):
  Calls Tp 197 #[.slice s.pd ds.length c,.func (.func 133) #[] #[.pointer (some ⟨k1,0,none⟩)]] w fun e w'=>∃j:Int,e=.returned (.int .i64 j)∧Ext w w'∧decide (j≥0)=ds.any (smallO s):=by
 refine(slices_IndexFunc_drive_Drive_drive_Drive_calls (R:=fun v w'=>∃j:Int,v=.int .i64 j∧Ext w w'∧decide (j≥0)=ds.any (smallO s)) ?_).mono fun e w' ⟨v,he,j,hv,hx⟩=>⟨j,by rw[he,hv],hx⟩
 unfold slices_IndexFunc_drive_Drive_drive_Drive
 refine⟨fun vs w'=>∃i:Nat,vs=[.int .i64 (i:Int)]∧i≤ds.length∧Ext w w'∧(ds.take i).any (smallO s)=false,fun vs _=>match vs with|[.int _ i]=>(ds.length-i).toNat|_=>0,⟨0,rfl,by omega,.refl w,rfl⟩,?_⟩
 rintro vs w1 ⟨i,rfl,hi,hx1,hs⟩
 refine⟨_,rfl,dec_t fun hlt=>?_,dec_f fun hge=>?_⟩
 ·have hlt:i<ds.length:=by omega
  have hy:ds[i]?=some ds[i]:=List.getElem?_eq_getElem hlt
  have hnext:(ds.take (i+1)).any (smallO s)=smallO s ds[i]:=by rw[List.take_add_one,hy,List.any_append,hs]; simp
  have hmem:ds[i]∈ds:=List.getElem_mem hlt
  generalize ds[i]=y at hy hnext hmem
  obtain⟨a,ha,hc⟩:=(h.ext hx1).pd.get (blks_get hy)
  refine⟨a,ha,by omega,by omega,_,by rw[Int.toNat_natCast]; exact hc,?_⟩
  refine CallF.func (by kernel_rfl) ((small_spec (h.ext hx1) (hT.quiet hx1) hm hy).mono fun e w2 ⟨he2,hx2⟩=>⟨_,he2,fun hb=>?_,fun hb=>⟨⟨i+1,?_,by omega,hx1.trans hx2,?_⟩,?_⟩⟩)
  ·exact⟨_,rfl,hx1.trans hx2,by rw[List.any_eq_true.2 ⟨y,hmem,hb⟩]; exact decide_eq_true (by omega)⟩
  ·rw[wrap64 _ (by omega) (by omega)]; rfl
  ·rw[hnext]; exact hb
  ·show((ds.length:Int)-IntKind.i64.wrap ((i:Int)+1)).toNat<((ds.length:Int)-(i:Int)).toNat
   rw[wrap64 _ (by omega) (by omega)]; omega
 ·have hie:i=ds.length:=by omega
  subst hie
  rw[List.take_length]at hs
  exact⟨_,rfl,hx1,by rw[hs]; decide⟩
theorem may16_spec {s:RwS}{ds:List Od}{bu:List Int}{w:World}(h:RwW s ds bu w) (hl:ds.length≤1000000):Ret Tp 64 #[.agg (rwC s ds.length bu.length)] w (.bool (decide (RMay s ds bu))):=by
 refine ret_of (row_May_calls ?_)
 unfold row_May
 refine Alloc.t (T.nil w) fun k1 w1 h1=>?_
 have h1:T [] w w1 [blk k1 (rwC s ds.length bu.length) 31]:=h1
 have no:∀{w':World},Ext w w'→¬RMay s ds bu→RetR w (.bool (decide (RMay s ds bu))) (.bool false) w':=fun hx hn=>⟨by rw[decide_eq_false hn],hx⟩
 refine⟨_,_,_,⟨h1.ld (c:=rwC s ds.length bu.length) (by repeat constructor) rfl,h1.ld (c:=rwC s ds.length bu.length) (i:=1) (by repeat constructor) rfl,h1.ld (c:=rwC s ds.length bu.length) (i:=2) (by repeat constructor) rfl⟩,?_⟩
 refine(check_spec s.c s.k s.r w1).mono fun e w2 ⟨he2,hx2⟩=>⟨_,he2,?_⟩
 have h2:=h1.quiet hx2
 refine⟨beq_t fun hz=>?_,beq_f fun hn=>no h2.chg.ext fun hm=>hn (by rw[if_pos hm.1])⟩
 have hG:OkG s.c s.k s.r:=by
  by_cases hG:OkG s.c s.k s.r
  ·exact hG
  ·rw[if_neg hG]at hz; cases hz
 refine⟨_,_,_,h2.ld (c:=rwC s ds.length bu.length) (i:=3) (by repeat constructor) rfl,_,h2.ld (c:=rwC s ds.length bu.length) (by repeat constructor) rfl,beq_t fun hd=>?_,beq_f fun hn=>no h2.chg.ext fun hm=>hn hm.2.1⟩
 refine⟨_,_,_,h2.ld (c:=rwC s ds.length bu.length) (i:=4) (by repeat constructor) rfl,_,h2.ld (c:=rwC s ds.length bu.length) (by repeat constructor) rfl,beq_t fun hb=>?_,beq_f fun hn=>no h2.chg.ext fun hm=>hn hm.2.2.1⟩
 refine⟨_,_,_,h2.ld (c:=rwC s ds.length bu.length) (i:=3) (by repeat constructor) rfl,?_⟩
 refine(slices_ContainsFunc_drive_Drive_drive_Drive_calls (R:=fun v w'=>v=.bool (ds.any (smallO s))∧Ext w2 w') ?_).mono fun e w3 ⟨v,he3,hv3,hx3⟩=>⟨ds.any (smallO s),he3.trans (by rw[hv3]),?_,h2.chg.ext.trans hx3⟩
 ·unfold slices_ContainsFunc_drive_Drive_drive_Drive
  exact(indexD_spec (h.ext h2.chg.ext) hl h2 (k1:=k1) (n:=ds.length) (m:=bu.length) (by simp)).mono fun e w3 ⟨j,he3,hx3,hj⟩=>⟨_,he3,by rw[hj],hx3⟩
 ·have:=rmay_any (s:=s) (ds:=ds) (bu:=bu) hG hd hb
  by_cases ha:ds.any (smallO s)=false
  ·rw[ha,decide_eq_true (this.2 ha)]; rfl
  ·rw[decide_eq_false fun hm=>ha (this.1 hm)]
   cases hq:ds.any (smallO s) with
   |false=>exact absurd hq ha
   |true=>rfl
def colR (s:RwS) (row role:Int):Int:=if role<s.c-2 then colG s.c s.k s.r row role else if role<s.c-1 then parP s.c s.k s.r row else parQ s.c s.k s.r row
theorem column16_spec {s:RwS}{n m:Nat}{row off role:Int}(hc:4≤s.c∧s.c≤10) (w:World):Ret Tp 178 #[.agg (plC s n m row off),.int .i64 role] w (.int .i64 (colR s row role)):=by
 refine ret_of (row_place_column_calls ?_)
 unfold row_place_column
 refine Alloc.t (T.nil w) fun k1 w1 h1=>?_
 have h1:T [] w w1 [blk k1 (plC s n m row off) 108]:=h1
 refine⟨_,h1.ld (c:=plC s n m row off) (by repeat constructor) rfl,?_⟩
 rw[wrap64 (s.c-1) (by omega) (by omega),wrap64 (s.c-1-1) (by omega) (by omega)]
 have cells:w1.cell? ⟨k1,0,none⟩=some (.int .i64 s.c)∧w1.cell? ⟨k1,1,none⟩=some (.int .i64 s.k)∧w1.cell? ⟨k1,2,none⟩=some (.int .i64 s.r):=⟨h1.ld (c:=plC s n m row off) (by repeat constructor) rfl,h1.ld (c:=plC s n m row off) (i:=1) (by repeat constructor) rfl,h1.ld (c:=plC s n m row off) (i:=2) (by repeat constructor) rfl⟩
 refine⟨dec_t fun hlt=>⟨_,_,_,cells,_,h1.ld (c:=plC s n m row off) (i:=5) (by repeat constructor) rfl,?_⟩,dec_f fun hge=>⟨_,_,_,cells,_,h1.ld (c:=plC s n m row off) (i:=5) (by repeat constructor) rfl,?_⟩⟩
 ·exact(column_spec s.c s.k s.r row role w1).mono fun e w2 ⟨he,hx⟩=>⟨_,he,by unfold colR; rw[if_pos (by omega)],h1.chg.ext.trans hx⟩
 ·refine(parity_spec s.c s.k s.r row w1).mono fun e w2 ⟨he,hx⟩=>⟨_,_,he,dec_t fun h2=>⟨?_,h1.chg.ext.trans hx⟩,dec_f fun h2=>⟨?_,h1.chg.ext.trans hx⟩⟩
  ·unfold colR; rw[if_neg (by omega),if_pos (by omega)]
  ·unfold colR; rw[if_neg (by omega),if_neg (by omega)]
def thereO (ds:List Od) (col:Nat):Od:=match ds.getD col none with
 |some x=>if x.2.dead then none else some x
 |none=>none
theorem there_spec {s:RwS}{ds:List Od}{bu:List Int}{w:World}(h:RwW s ds bu w){col:Nat}(hc:col<ds.length){m:Nat}:Ret Tp 141 #[.agg (rwC s ds.length m),.int .i64 (col:Int)] w (.pointer (ptr (odB (thereO ds col)))):=by
 refine ret_of (row_Set_there_calls ?_)
 unfold row_Set_there
 refine Alloc.t (T.nil w) fun k1 w1 h1=>?_
 have h1:T [] w w1 [blk k1 (rwC s ds.length m) 31]:=h1
 have hy:ds[col]?=some ds[col]:=List.getElem?_eq_getElem hc
 have hth:thereO ds col=match ds[col] with
  |some x=>if x.2.dead then none else some x
  |none=>none:=by unfold thereO; rw[List.getD_eq_getElem?_getD,hy]; rfl
 generalize ds[col]=y at hy hth
 obtain⟨a,ha,hcell⟩:=(h.ext h1.chg.ext).pd.get (blks_get hy)
 refine⟨_,_,_,h1.ld (c:=rwC s ds.length m) (i:=3) (by repeat constructor) rfl,a,ha,by omega,by omega,_,by rw[Int.toNat_natCast]; exact hcell,?_⟩
 rw[hth]
 cases y with
 |none=>exact no rfl ⟨rfl,h1.chg.ext⟩
 |some x=>
  obtain⟨p,ad⟩:=x
  obtain⟨F,w0',X,hd⟩:=(h.ext h1.chg.ext).drive hy
  refine yes rfl ((dead_a hd).mono fun e w2 ⟨he,hx⟩=>⟨_,he,fun hb=>⟨?_,h1.chg.ext.trans hx⟩,fun hb=>⟨?_,h1.chg.ext.trans hx⟩⟩)
  ·have hb:ad.dead=false:=by simpa using hb
   show _=Value.pointer (ptr (odB (if ad.dead then none else some (p,ad))))
   rw[hb]; rfl
  ·have hb:ad.dead=true:=by simpa using hb
   show _=Value.pointer (ptr (odB (if ad.dead then none else some (p,ad))))
   rw[hb]; rfl
def builtO (s:RwS) (ds:List Od) (bu:List Int) (row role:Int):Od:=if bu.getD (colR s row role).toNat 0≤row then none else thereO ds (colR s row role).toNat
theorem colR_in {s:RwS}(hG:OkG s.c s.k s.r){row role:Int}(hr:0≤row∧row<s.r) (h0:0≤role∧role<s.c):0≤colR s row role∧colR s row role<s.c:=by
 have hc:=hG.1
 have e1:∀x:Int,0≤x%s.c∧x%s.c<s.c:=fun x=>⟨Int.emod_nonneg _ (by omega),Int.emod_lt_of_pos _ (by omega)⟩
 unfold colR colG parP parQ firstG
 split
 ·split
  ·exact e1 _
  ·omega
 ·split
  ·split
   ·exact e1 _
   ·omega
  ·split
   ·exact e1 _
   ·omega
theorem built_spec {s:RwS}{ds:List Od}{bu:List Int}{w:World}(h:RwW s ds bu w) (hM:RMay s ds bu){row off role:Int}(hr:0≤row∧row<s.r) (h0:0≤role∧role<s.c):Ret Tp 103 #[.agg (plC s ds.length bu.length row off),.int .i64 role] w (.pointer (ptr (odB (builtO s ds bu row role)))):=by
 refine ret_of (row_place_built_calls ?_)
 unfold row_place_built
 have hc:=hM.1.1
 have hc2:=hM.1.2.1
 obtain⟨j0,j1⟩:=colR_in hM.1 hr h0
 have hdl:=hM.2.1
 have hbl:=hM.2.2.1
 refine Alloc.t (T.nil w) fun k1 w1 h1=>?_
 have h1:T [] w w1 [blk k1 (plC s ds.length bu.length row off) 108]:=h1
 have cl:∀{w':World},T [] w w' [blk k1 (plC s ds.length bu.length row off) 108]→∀i v,(plC s ds.length bu.length row off)[i]?=some v→w'.cell? ⟨k1,i,none⟩=some v:=fun h' i v hv=>h'.ld (by repeat constructor) hv
 refine⟨_,_,_,_,_,_,_,_,_,_,_,⟨cl h1 0 _ rfl,cl h1 1 _ rfl,cl h1 2 _ rfl,cl h1 3 _ rfl,cl h1 4 _ rfl,cl h1 5 _ rfl,cl h1 6 _ rfl⟩,?_⟩
 refine(column16_spec (s:=s) (n:=ds.length) (m:=bu.length) (off:=off) ⟨hc,hc2⟩ w1).mono fun e w2 ⟨he2,hx2⟩=>⟨_,he2,?_⟩
 have h2:=h1.quiet hx2
 unfold builtO
 obtain⟨col,hcol⟩:∃col:Nat,colR s row role=(col:Int):=⟨(colR s row role).toNat,by omega⟩
 rw[hcol]at j1⊢
 have hcl:col<bu.length:=by omega
 obtain⟨a,ha,hcell⟩:=(h.ext h2.drew.chg.ext).pb.get' hcl
 have hg:bu.getD col 0=bu[col]:=by rw[List.getD_eq_getElem?_getD,List.getElem?_eq_getElem hcl]; rfl
 rw[Int.toNat_natCast,hg]
 refine⟨fun w'=>T [] w w' [blk k1 (plC s ds.length bu.length row off) 108],h2.drew,_,_,_,fun w' h'=>cl h' 4 _ rfl,a,ha,by omega,by omega,bu[col],fun w' h'=>?_,row,fun w' h'=>cl h' 5 _ rfl,?_⟩
 ·obtain⟨a',ha',hc'⟩:=(h.ext h'.chg.ext).pb.get' hcl
  rw[ha]at ha'; cases ha'; exact hc'
 refine⟨dec_t fun hle=>⟨by rw[if_pos hle]; rfl,h2.drew.chg.ext⟩,dec_f fun hgt=>?_⟩
 rw[if_neg hgt]
 refine⟨_,_,_,_,_,_,_,_,_,⟨cl h2.drew 0 _ rfl,cl h2.drew 1 _ rfl,cl h2.drew 2 _ rfl,cl h2.drew 3 _ rfl,cl h2.drew 4 _ rfl⟩,?_⟩
 exact(there_spec (h.ext h2.drew.chg.ext) (col:=col) (by omega) (m:=bu.length)).mono fun e w3 ⟨he3,hx3⟩=>⟨_,he3,rfl,h2.drew.chg.ext.trans hx3⟩
def secR (s:RwS) (ds:List Od) (bu:List Int) (row off role:Int):ByteArray×Int:=match builtO s ds bu row role with
 |some x=>x.2.read (sectorG s.c s.k s.r row off)
 |none=>(noB,41)
theorem thereO_get {ds:List Od}{col p:Nat}{a:AD}(h:thereO ds col=some (p,a)):ds[col]?=some (some (p,a))∧a.dead=false:=by
 unfold thereO at h
 cases hg:ds[col]? with
 |none=>rw[List.getD_eq_getElem?_getD,hg]at h; cases h
 |some y=>
  rw[List.getD_eq_getElem?_getD,hg]at h
  cases y with
  |none=>cases h
  |some x=>
   simp only[Option.getD_some]at h
   split at h
   ·cases h
   ·rename_i hd
    cases h
    exact⟨rfl,by simpa using hd⟩
theorem builtO_get {s:RwS}{ds:List Od}{bu:List Int}{row role:Int}{p:Nat}{a:AD}(h:builtO s ds bu row role=some (p,a)):ds[(colR s row role).toNat]?=some (some (p,a)):=by
 unfold builtO at h
 split at h
 ·cases h
 ·exact(thereO_get h).1
theorem sector16_spec {s:RwS}{ds:List Od}{bu:List Int}{w:World}(h:RwW s ds bu w) (hF:FewL ds 1000000) (hM:RMay s ds bu){row off role:Int}(hr:0≤row∧row<s.r) (h0:0≤role∧role<s.c):Ret Tp 46 #[.agg (plC s ds.length bu.length row off),.int .i64 role] w (.tuple #[.string (secR s ds bu row off role).1,.int .i64 (secR s ds bu row off role).2]):=by
 refine ret_of (row_place_sector_calls ?_)
 unfold row_place_sector
 refine Alloc.t (T.nil w) fun k1 w1 h1=>?_
 have h1:T [] w w1 [blk k1 (plC s ds.length bu.length row off) 108]:=h1
 have cl:∀{w':World},T [] w w' [blk k1 (plC s ds.length bu.length row off) 108]→∀i v,(plC s ds.length bu.length row off)[i]?=some v→w'.cell? ⟨k1,i,none⟩=some v:=fun h' i v hv=>h'.ld (by repeat constructor) hv
 refine⟨_,_,_,_,_,_,_,_,_,_,_,⟨cl h1 0 _ rfl,cl h1 1 _ rfl,cl h1 2 _ rfl,cl h1 3 _ rfl,cl h1 4 _ rfl,cl h1 5 _ rfl,cl h1 6 _ rfl⟩,?_⟩
 refine(built_spec (off:=off) (h.ext h1.chg.ext) hM hr h0).mono fun e w2 ⟨he2,hx2⟩=>⟨_,he2,?_⟩
 have h2:=h1.quiet hx2
 have hb:∀p a,builtO s ds bu row role=some (p,a)→ds[(colR s row role).toNat]?=some (some (p,a)):=fun p a hb=>builtO_get hb
 unfold secR
 generalize builtO s ds bu row role=y at hb
 cases y with
 |none=>exact yes rfl ⟨rfl,h2.chg.ext⟩
 |some x=>
  obtain⟨p,a⟩:=x
  have hk:=hb p a rfl
  refine no rfl ⟨_,_,_,⟨cl h2 0 _ rfl,cl h2 1 _ rfl,cl h2 2 _ rfl⟩,_,cl h2 5 _ rfl,_,cl h2 6 _ rfl,?_⟩
  refine(sector_spec s.c s.k s.r row off w2).mono fun e w3 ⟨he3,hx3⟩=>⟨_,he3,?_⟩
  have hx13:=h2.chg.ext.trans hx3
  obtain⟨F,w0',X,hd⟩:=(h.ext hx13).drive hk
  exact(read_a hd (hF p a (List.mem_of_getElem? hk)) (sectorG s.c s.k s.r row off)).mono fun e w4 ⟨he4,hx4⟩=>⟨_,_,he4,rfl,hx13.trans hx4⟩
end Go.Proofs.YtkknkmplmilihaaGreat
end
section
namespace Go.Sh
open Go.RowKit
theorem RoundR.t {obf:LoopState→Option Code→Obj}{l:Nat}{Φ:Value→World→Prop}{body:(World→Prop)→(Nat→World→Prop)→(World→Prop)→World→Prop}{F:List Nat}{w0 W:World}{Γ:List A}
  (hT:T F w0 W (ob l (obf .ready none)::Γ)) {G:List A→Prop} (hΦ:∀Γ' w',G Γ'→T F w0 w' (ob l (obf .done (some .ret))::Γ')→Φ (.bool false) w')
  (hb:∀K X R w1,T F w0 w1 (ob l (obf .busy none)::Γ)→(∀Γ' w2,G Γ'→T F w0 w2 (ob l (obf .busy none)::Γ')→R w2)→body K X R w1):RoundP obf l Φ body W:=
 ⟨hT.got List.mem_cons_self,hb _ _ _ _ hT.putTop fun Γ' w2 hg h2=>⟨h2.got List.mem_cons_self,hΦ Γ' _ hg h2.putTop⟩⟩
theorem RangeR.t {P:Program}{round:(LoopState→Option Code→Obj)→Nat→List Value→World→(Value→World→Prop)→Prop}{os:List (Nat×(Nat→World→Prop))}{K R:Nat→World→Prop}{f:FuncId}{first cap:Array Value}(hb:bodyB P f=true)
  {F:List Nat} {w0 w:World} {Γ:List A} (hT:T F w0 w Γ) {N:Nat} {arg:Nat→List Value} {Inv Mid:Nat→List A→Prop} {Out:List A→Prop}
  (hcallee:∀(yv:Value) (x y z:A),(∀k W Γk,k<N→Inv k Γk→T F w0 W (x::y::Γk)→CallF P yv (arg k) W fun e w'=>e=.returned (.bool true)∧∃Γ',Mid k Γ'∧T F w0 w' (x::y::Γ'))→
   (∀W Γk,Inv N Γk→T F w0 W (x::y::Γk)→CallF P yv (arg N) W fun e w'=>e=.returned (.bool false)∧∃Γ',Out Γ'∧T F w0 w' (z::y::Γ'))→
   ∀W,T F w0 W (x::y::Γ)→Calls P f (first.toList++[yv]++cap.toList).toArray W fun e w'=>(∃v,e=.returned v)∧∃Γ',Out Γ'∧T F w0 w' (z::y::Γ'))
  (hround:∀(obf:LoopState→Option Code→Obj) (l d k:Nat) (Γk:List A) (W:World) (Φ:Value→World→Prop),k<N→Inv k Γk→T F w0 W (ob l (obf .ready none)::ob d (.deferred (some []))::Γk)→
   (∀Γ' w',Mid k Γ'→T F w0 w' (ob l (obf .ready none)::ob d (.deferred (some []))::Γ')→Φ (.bool true) w')→round obf l (arg k) W Φ)
  (hbrk:∀(obf:LoopState→Option Code→Obj) (l d:Nat) (Γk:List A) (W:World) (Φ:Value→World→Prop),Inv N Γk→T F w0 W (ob l (obf .ready none)::ob d (.deferred (some []))::Γk)→
   (∀Γ' w',Out Γ'→T F w0 w' (ob l (obf .done (some .ret))::ob d (.deferred (some []))::Γ')→Φ (.bool false) w')→round obf l (arg N) W Φ)
  (hK:∀d Γ' w',Out Γ'→T F w0 w' (ob d (.deferred (some []))::Γ')→R d w'):RangeP P (.func (.func f) first cap) round os K R w:=by
 intro obf hob hyield
 refine⟨f,first,cap,rfl,hb,?_⟩
 have hsz:(w.alloc (.deferred (some []))).heap.size=w.heap.size+1:=by simp
 have h2:=(hT.alloc (.deferred (some []))).alloc (obf .ready none)
 rw[hsz]at h2
 refine(hcallee (.func (.yield (w.heap.size+1)) #[] #[]) (ob (w.heap.size+1) (obf .ready none)) (ob w.heap.size (.deferred (some []))) (ob (w.heap.size+1) (obf .done (some .ret))) ?_ ?_ _ h2).mono ?_
 ·intro k W Γk hk hi h
  show CallV P (.func (.yield (w.heap.size+1)) #[] #[]) (arg k) W _
  exact hyield _ _ _ (h.got List.mem_cons_self) (hround obf _ w.heap.size k Γk W _ hk hi h fun Γ' w' hi' h'=>⟨rfl,Γ',hi',h'⟩)
 ·intro W Γk hi h
  show CallV P (.func (.yield (w.heap.size+1)) #[] #[]) (arg N) W _
  exact hyield _ _ _ (h.got List.mem_cons_self) (hbrk obf _ w.heap.size Γk W _ hi h fun Γ' w' hi' h'=>⟨rfl,Γ',hi',h'⟩)
 ·rintro e w3 ⟨hv,Γk,hi,h⟩
  exact⟨hv,.done,some .ret,h.got List.mem_cons_self,by simp,.inr (.inl ⟨rfl,hK _ Γk _ hi h.putTop.drop⟩)⟩
theorem RangeA.t {P:Program}{round:(LoopState→Option Code→Obj)→Nat→List Value→World→(Value→World→Prop)→Prop}{os:List (Nat×(Nat→World→Prop))}{K R:Nat→World→Prop}{f:FuncId}{first cap:Array Value}(hb:bodyB P f=true)
  {F:List Nat} {w0 w:World} {Γ:List A} (hT:T F w0 w Γ) {N:Nat} {arg:Nat→List Value} {Inv Mid:Nat→List A→Prop}
  (hcallee:∀(yv:Value) (x y:A),(∀k W Γk,k<N→Inv k Γk→T F w0 W (x::y::Γk)→CallF P yv (arg k) W fun e w'=>e=.returned (.bool true)∧∃Γ',Mid k Γ'∧T F w0 w' (x::y::Γ'))→
   ∀W,T F w0 W (x::y::Γ)→Calls P f (first.toList++[yv]++cap.toList).toArray W fun e w'=>(∃v,e=.returned v)∧∃Γ',Inv N Γ'∧T F w0 w' (x::y::Γ'))
  (hround:∀(obf:LoopState→Option Code→Obj) (l d k:Nat) (Γk:List A) (W:World) (Φ:Value→World→Prop),k<N→Inv k Γk→T F w0 W (ob l (obf .ready none)::ob d (.deferred (some []))::Γk)→
   (∀Γ' w',Mid k Γ'→T F w0 w' (ob l (obf .ready none)::ob d (.deferred (some []))::Γ')→Φ (.bool true) w')→round obf l (arg k) W Φ)
  (hK:∀d Γ' w',Inv N Γ'→T F w0 w' (ob d (.deferred (some []))::Γ')→K d w'):RangeP P (.func (.func f) first cap) round os K R w:=by
 intro obf hob hyield
 refine⟨f,first,cap,rfl,hb,?_⟩
 have hsz:(w.alloc (.deferred (some []))).heap.size=w.heap.size+1:=by simp
 have h2:=(hT.alloc (.deferred (some []))).alloc (obf .ready none)
 rw[hsz]at h2
 refine(hcallee (.func (.yield (w.heap.size+1)) #[] #[]) (ob (w.heap.size+1) (obf .ready none)) (ob w.heap.size (.deferred (some []))) ?_ _ h2).mono ?_
 ·intro k W Γk hk hi h
  show CallV P (.func (.yield (w.heap.size+1)) #[] #[]) (arg k) W _
  exact hyield _ _ _ (h.got List.mem_cons_self) (hround obf _ w.heap.size k Γk W _ hk hi h fun Γ' w' hi' h'=>⟨rfl,Γ',hi',h'⟩)
 ·rintro e w3 ⟨hv,Γk,hi,h⟩
  exact⟨hv,.ready,none,h.got List.mem_cons_self,by simp,.inl ⟨rfl,hK _ Γk _ hi h.putTop.drop⟩⟩
end Go.Sh
end
section
namespace Go.Proofs.YtkknkmplmilihaaGreat
open Go.Sh Go.RowKit
theorem slice_mid {P:Program}{t:TypeId}{s:ByteArray}{k k':IntKind}{lo hi:Int}{w:World}(ht:P.underlying t=some .string) (h0:0≤lo) (h1:lo≤hi) (h2:hi≤(s.size:Int)):
  (Instr.sliceAt t (.string s) (some (.int k lo)) (some (.int k' hi)) none).run P w=.ok (.string (s.extract lo.toNat hi.toNat)) w:=by
 have h3:0≤lo∧lo≤hi:=⟨h0,h1⟩
 have h4:0≤hi∧hi≤(s.size:Int):=⟨by omega,h2⟩
 have h5:¬max hi 0<lo:=by omega
 simp[Instr.sliceAt,Instr.slice,Instr.sliceBounds,Instr.sliceBound,asIntOf,underlying_run ht,h3,h4,h5]
theorem hasPrefix_spec (l m:List UInt8) (w:World):Ret Tp 209 #[.string (strB l),.string (strB m)] w (.bool (decide (l.take m.length=m))):=by
 refine ret_of (internal_stringslite_HasPrefix_calls ?_)
 unfold internal_stringslite_HasPrefix
 rw[strB_size,strB_size]
 refine⟨dec_t fun hge=>?_,dec_f fun hlt=>⟨?_,Ext.refl w⟩⟩
 ·have hsl:=slice_to (P:=Tp) (t:=9) (k:=.i64) (s:=strB l) (hi:=(m.length:Int)) (w:=w) (by kernel_rfl) (by omega) (by rw[strB_size]; omega)
  rw[strB_extract,List.drop_zero,Nat.sub_zero,Int.toNat_natCast]at hsl
  refine⟨_,w,hsl,?_,Ext.refl w⟩
  rw[strB_toList,strB_toList]
  by_cases h:l.take m.length=m
  ·rw[decide_eq_true h,h]; simp
  ·rw[decide_eq_false h]
   have:(l.take m.length==m)=false:=by simpa using h
   rw[this]
 ·rw[decide_eq_false]
  intro e
  have:=congrArg List.length e
  rw[List.length_take]at this
  omega
end Go.Proofs.YtkknkmplmilihaaGreat
end
