import Derived.Test.YtkknkmplmilihaaGreatD15
import Derived.Test.YtkknkmplmilihaaGreatD17
set_option linter.unusedSimpArgs false
set_option linter.unusedVariables false
set_option maxHeartbeats 1000000
set_option maxRecDepth 20000
section
namespace Go.Proofs.YtkknkmplmilihaaGreat
open Go.Sh Go.RowKit
theorem max_xor32 (x:B32):bits2 .xor .u32 IntKind.u32.max (x.toNat:Int)=((~~~ x).toNat:Int):=by
 have:IntKind.u32.max=(((-1#32:B32)).toNat:Int):=by decide
 rw[this,xor32]
 congr 2
theorem bit_one (x:B32):(bits2 .and .u32 (x.toNat:Int) 1==1)=x.getLsbD 0:=by
 have h1:bits2 .and .u32 (x.toNat:Int) 1=((x &&& 1#32).toNat:Int):=and32 x 1#32
 rw[h1,BitVec.toNat_and]
 have:(1#32).toNat=1:=rfl
 rw[this,Nat.and_one_is_mod]
 have h2:x.getLsbD 0=decide (x.toNat%2=1):=by
  simp[BitVec.getLsbD,Nat.testBit]
  rfl
 rw[h2]
 rcases Nat.mod_two_eq_zero_or_one x.toNat with h|h<;>simp[h]
theorem it1_succ (j:Nat) (x:B32):it1 (j+1) x=step1 (it1 j x):=rfl
theorem it1_8 (x:B32):it1 8 x=step4 (step4 x):=rfl
theorem rmore_spec (n:B32) (s:ByteArray) (hs:s.size≤1000000000) (w:World):Ret Tp 213 #[u32v n,.string s] w (u32v (crcMore n s.data.toList)):=by
 refine ret_of (revetmentref02_More_calls ?_)
 unfold revetmentref02_More
 rw[max_xor32]
 have hl:s.data.toList.length=s.size:=Array.length_toList
 refine⟨fun vs w'=>∃i:Nat,vs=[u32v ((s.data.toList.take i).foldl crcB (~~~ n)),.int .i64 (i:Int)]∧i≤s.size∧Ext w w',fun vs _=>match vs with|[_,.int _ i]=>(s.size-i).toNat|_=>0,⟨0,rfl,by omega,.refl w⟩,?_⟩
 rintro vs w1 ⟨i,rfl,hi,hx⟩
 refine⟨_,_,rfl,dec_t fun hlt=>?_,dec_f fun hge=>?_⟩
 ·have hlt:i<s.size:=by omega
  have:=index_str (P:=Tp) (t:=9) (k:=.i64) (n:=i) (s:=s) (w:=w1) (by kernel_rfl) (by omega) (by omega)
  rw[Int.toNat_natCast]at this
  refine⟨_,w1,this,?_⟩
  generalize hb:s.data.toList.getD i 0=b
  generalize hx0:(s.data.toList.take i).foldl crcB (~~~ n)=x
  have hbb:=b.toNat_lt
  have ex:bits2 .xor .u32 (x.toNat:Int) (IntKind.u32.wrap ((b.toNat:Nat):Int))=((x^^^byte32 b).toNat:Int):=by
   have:IntKind.u32.wrap ((b.toNat:Nat):Int)=((byte32 b).toNat:Int):=by
    rw[wrap32 _ (by omega) (by omega)]
    unfold byte32
    rw[BitVec.toNat_ofNat]
    omega
   rw[this,xor32]
  rw[ex]
  refine⟨fun vs w'=>w'=w1∧∃j:Nat,vs=[u32v (it1 j (x^^^byte32 b)),.int .i64 (j:Int)]∧j≤8,fun vs _=>match vs with|[_,.int _ j]=>(8-j).toNat|_=>0,⟨rfl,0,rfl,by omega⟩,?_⟩
  rintro vs w2 ⟨rfl,j,rfl,hj⟩
  have hms:j<8→((8:Int)-IntKind.i64.wrap ((j:Int)+1)).toNat<((8:Int)-(j:Int)).toNat:=fun h=>by rw[wrap64 _ (by omega) (by omega)]; omega
  have hnx:j<8→IntKind.i64.wrap ((j:Int)+1)=((j+1:Nat):Int):=fun h=>by rw[wrap64 _ (by omega) (by omega)]; omega
  refine⟨_,_,rfl,dec_t fun hjl=>?_,dec_f fun hjg=>?_⟩
  ·have hjl:j<8:=by omega
   rw[bit_one,shr32 _ 1]
   refine⟨fun hbit=>⟨⟨rfl,j+1,?_,by omega⟩,hms hjl⟩,fun hbit=>⟨⟨rfl,j+1,?_,by omega⟩,hms hjl⟩⟩
   ·have hp:(2197175160:Int)=(poly.toNat:Int):=rfl
    rw[hnx hjl,it1_succ,step1_bit,hbit,hp,xor32]
    rfl
   ·rw[hnx hjl,it1_succ,step1_bit,hbit]
    simp
  ·have hj8:j=8:=by omega
   subst hj8
   refine⟨⟨i+1,?_,by omega,hx⟩,?_⟩
   ·have:(s.data.toList.take (i+1)).foldl crcB (~~~ n)=crcB x b:=by
     rw[List.take_add_one,List.getElem?_eq_getElem (by omega),←hx0,←hb,List.getD_eq_getElem?_getD,List.getElem?_eq_getElem (by omega)]
     simp
    rw[this,it1_8,wrap64 _ (by omega) (by omega)]
    rfl
   ·show((s.size:Int)-IntKind.i64.wrap ((i:Int)+1)).toNat<((s.size:Int)-(i:Int)).toNat
    rw[wrap64 _ (by omega) (by omega)]; omega
 ·have hie:i=s.size:=by omega
  subst hie
  rw[List.take_of_length_le (by omega),max_xor32]
  exact⟨rfl,hx⟩
theorem rsum_spec (s:ByteArray) (hs:s.size≤1000000000) (w:World):Ret Tp 170 #[.string s] w (u32v (crcSum s.data.toList)):=by
 refine ret_of (revetmentref02_Sum_calls ?_)
 unfold revetmentref02_Sum
 exact(rmore_spec 0#32 s hs w).mono fun e w1 ⟨he,hx⟩=>⟨_,he,rfl,hx⟩
theorem rfour_spec (n:B32) (w:World):Ret Tp 169 #[u32v n] w (.string (strB (four n))):=by
 refine ret_of (revetmentref02_four_calls ?_)
 unfold revetmentref02_four
 refine Alloc.t (T.nil w) fun k w1 h1=>?_
 have h2:T [] w w1 [rowP 5 1 (some k) 4 4 (bvals (four n))]:=by
  refine blk_row h1 ?_ rfl (by decide)
  have hlt:=n.isLt
  have hw:∀d:Nat,0<d→IntKind.u8.wrap ((n.toNat:Int) / (d:Int))=((UInt8.ofNat (n.toNat / d)).toNat:Int):=by
   intro d hd
   rw[wrap8]
   simp
  have h0:IntKind.u8.wrap (n.toNat:Int)=((UInt8.ofNat n.toNat).toNat:Int):=by rw[wrap8]; simp
  have hf:∀k:Nat,Int.fdiv (n.toNat:Int) (2 ^ k)=(n.toNat:Int) / ((2 ^ k:Nat):Int):=by
   intro k
   rw[Int.fdiv_eq_ediv_of_nonneg _ (Int.le_of_lt (Int.pow_pos (by decide)))]
   push_cast
   rfl
  rw[hf 8,hf 16,hf 24,hw _ (by decide),hw _ (by decide),hw _ (by decide),h0]
  rfl
 exact⟨_,w1,row_string h2 List.mem_cons_self,rfl,h2.chg.ext⟩
theorem ropen_spec (s:ByteArray) (hs:s.size≤1000000000) (w:World):Ret Tp 98 #[.string s] w (.tuple #[.string (strB (openB s.data.toList).1),.bool (openB s.data.toList).2]):=by
 refine ret_of (revetmentref02_Open_calls ?_)
 unfold revetmentref02_Open
 have hl:s.data.toList.length=s.size:=Array.length_toList
 refine⟨dec_t fun hlt=>⟨?_,Ext.refl w⟩,dec_f fun hge=>?_⟩
 ·unfold openB
  rw[if_pos (by omega)]
 ·have wr:IntKind.i64.wrap ((s.size:Int)-4)=(s.size:Int)-4:=wrap64 _ (by omega) (by omega)
  rw[wr]
  have htn:((s.size:Int)-4).toNat=s.size-4:=by omega
  have hs1:s.extract 0 (s.size-4)=strB (s.data.toList.take (s.size-4)):=by
   conv=>lhs; rw[←strB_list s]
   rw[strB_extract,List.drop_zero,Nat.sub_zero]
  have hs2:s.extract (s.size-4) s.size=strB (s.data.toList.drop (s.size-4)):=by
   conv=>lhs; rw[←strB_list s]
   rw[strB_extract,strB_size,hl]
   congr 1
   rw[List.take_of_length_le (by rw[List.length_drop,hl]; omega)]
  refine⟨strB (s.data.toList.take (s.size-4)),w,by rw[slice_to (by kernel_rfl) (by omega) (by omega),htn,hs1],fun w'=>Ext w w',(Ext.refl w).drew,strB (s.data.toList.drop (s.size-4)),fun w' _=>by rw[slice_from (by kernel_rfl) (by omega) (by omega),htn,hs2],?_⟩
  have hz:(strB (s.data.toList.take (s.size-4))).size≤1000000000:=by rw[strB_size,List.length_take]; omega
  refine(rsum_spec _ hz _).mono fun e w1 ⟨he,hx1⟩=>⟨_,he,((Ext.refl w).drew).trans hx1,?_⟩
  refine(rfour_spec _ w1).mono fun e w2 ⟨he,hx2⟩=>⟨_,he,(((Ext.refl w).drew).trans hx1).trans hx2,?_⟩
  have hx:=(((Ext.refl w).drew).trans hx1).trans hx2
  have e1:(strB (four (crcSum (strB (s.data.toList.take (s.size-4))).data.toList))).toList=four (crcSum (s.data.toList.take (s.size-4))):=strB_toList _
  try dsimp only
  rw[e1,strB_toList]
  have ho:openB s.data.toList=if four (crcSum (s.data.toList.take (s.size-4)))=s.data.toList.drop (s.size-4) then (s.data.toList.take (s.size-4),true) else ([],false):=by
   unfold openB
   rw[if_neg (by omega),hl]
  by_cases hq:four (crcSum (s.data.toList.take (s.size-4)))=s.data.toList.drop (s.size-4)
  ·rw[ho,if_pos hq,hq]
   simp only[beq_self_eq_true,Bool.not_true]
   exact⟨fun h=>(by cases h),fun _=>⟨trivial,hx⟩⟩
  ·rw[ho,if_neg hq]
   have:(s.data.toList.drop (s.size-4)==four (crcSum (s.data.toList.take (s.size-4))))=false:=by
    simp only[beq_eq_false_iff_ne,ne_eq]
    exact fun h=>hq h.symm
   rw[this]
   exact yes rfl ⟨rfl,hx⟩
theorem rseal_spec (s:ByteArray) (size:Nat) (hs:s.size+4≤size) (hz:size≤4096) (w:World):Ret Tp 166 #[.string s,.int .i64 (size:Int)] w (.tuple #[.string (strB (sealB s.data.toList size)),.bool true]):=by
 refine ret_of (revetmentref02_Seal_calls ?_)
 unfold revetmentref02_Seal
 have wr:IntKind.i64.wrap ((size:Int)-4)=(size:Int)-4:=wrap64 _ (by omega) (by omega)
 have hl:s.data.toList.length=s.size:=Array.length_toList
 rw[wr]
 refine no (decide_eq_false (by omega)) (no (decide_eq_false (by omega)) (no (decide_eq_false (by omega)) ?_))
 refine⟨fun vs w'=>w'=w∧∃k:Nat,vs=[.string (strB (s.data.toList++List.replicate k 0))]∧s.size+k≤size-4,fun vs _=>match vs with|[.string t]=>size-t.size|_=>0,⟨rfl,0,by rw[List.replicate_zero,List.append_nil,strB_list],by omega⟩,?_⟩
 rintro vs w1 ⟨rfl,k,rfl,hk⟩
 have hsz:(strB (s.data.toList++List.replicate k 0)).size=s.size+k:=by rw[strB_size]; simp[hl]
 refine⟨_,rfl,dec_t fun hlt=>?_,dec_f fun hge=>?_⟩
 ·rw[hsz]at hlt
  have e0:(ByteArray.mk #[0])=strB [0]:=rfl
  have es:strB (s.data.toList++List.replicate k 0)++ByteArray.mk #[0]=strB (s.data.toList++List.replicate (k+1) 0):=by
   rw[e0,strB_append,List.append_assoc,List.replicate_succ']
  refine⟨by rw[hsz]; have:(ByteArray.mk #[0]).size=1:=rfl
            omega,⟨rfl,k+1,by rw[es],by omega⟩,?_⟩
  rw[es]
  show size-(strB (s.data.toList++List.replicate (k+1) 0)).size<size-(strB (s.data.toList++List.replicate k 0)).size
  rw[hsz,strB_size]
  simp[hl]; omega
 ·rw[hsz]at hge
  have hke:k=size-4-s.size:=by omega
  have hp:strB (s.data.toList++List.replicate k 0)=strB (padB s.data.toList (size-4)):=by unfold padB; rw[hke,hl]
  rw[hp]
  have hpl:(padB s.data.toList (size-4)).length=size-4:=padB_len (by omega)
  refine(rsum_spec _ (by rw[strB_size,hpl]; omega) _).mono fun e w2 ⟨he,hx2⟩=>⟨_,he,?_⟩
  refine(rfour_spec _ w2).mono fun e w3 ⟨he,hx3⟩=>⟨_,he,by rw[strB_size,strB_size,hpl]; have:=four_len (crcSum (strB (padB s.data.toList (size-4))).data.toList); omega,?_,hx2.trans hx3⟩
  rw[strB_append]
  rfl
theorem rpsize_spec {ws:List Nat}(hv:Wid ws){w:World}{g:Option Nat}{cap:Nat}(hm:readsW w g ws):Ret Tp 171 #[.slice (ptr g) ws.length cap] w (.tuple #[.int .i64 (ws.sum:Int),.int .i64 0]):=by
 refine ret_of (revetmentref03_Size_calls ?_)
 unfold revetmentref03_Size
 have hs:=hv.sum
 have hl:=hv.1
 refine no (decide_eq_false (by omega)) ?_
 refine⟨fun vs w'=>w'=w∧∃i:Nat,vs=[.int .i64 (wsum ws i:Int),.int .i64 (i:Int)]∧i≤ws.length,fun vs _=>match vs with|[_,.int _ i]=>(ws.length-i).toNat|_=>0,⟨rfl,0,rfl,by omega⟩,?_⟩
 rintro vs w1 ⟨rfl,i,rfl,hi⟩
 refine⟨_,_,rfl,dec_t fun hlt=>?_,dec_f fun hge=>?_⟩
 ·have hlt:i<ws.length:=by omega
  obtain⟨b,rfl,hc⟩:=hm i ws[i] (by simp[hlt])
  have hx:=hv.at (i:=i) (x:=ws[i]) (by simp[hlt])
  have hst:=wsum_step (ws:=ws) (i:=i) (x:=ws[i]) (by simp[hlt])
  have hmx:=wsum_max (ws:=ws) (i+1)
  have hcell:w1.cell? (Addr.add ⟨b,0,none⟩ ((i:Int).toNat*1))=some (.int .i64 (ws[i]:Int)):=by rw[addr_add,Nat.zero_add,Nat.mul_one,Int.toNat_natCast]; exact hc
  refine⟨_,rfl,by omega,by omega,_,hcell,no (decide_eq_false (by omega)) ⟨_,rfl,by omega,by omega,_,hcell,no (decide_eq_false (by omega)) ⟨_,rfl,by omega,by omega,_,hcell,⟨rfl,i+1,?_,by omega⟩,?_⟩⟩⟩
  ·rw[wrap64 _ (by omega) (by omega),wrap64 _ (by omega) (by omega),hst]; simp
  ·show((ws.length:Int)-IntKind.i64.wrap ((i:Int)+1)).toNat<((ws.length:Int)-(i:Int)).toNat
   rw[wrap64 _ (by omega) (by omega)]; omega
 ·have hie:i=ws.length:=by omega
  subst hie
  rw[wsum_all ws (Nat.le_refl _)]
  exact⟨rfl,Ext.refl _⟩
theorem rfits_spec (n x:Nat) (hn:n<256 ^ x) (hx:1≤x∧x≤8) (w:World):Ret Tp 212 #[.int .u64 (n:Int),.int .i64 (x:Int)] w (.bool true):=by
 refine ret_of (revetmentref03_Fits_calls ?_)
 unfold revetmentref03_Fits
 refine no (decide_eq_false (by omega)) (no (decide_eq_false (by omega)) ?_)
 refine⟨fun vs w'=>w'=w∧∃k:Nat,vs=[.int .u64 ((n / 256 ^ k:Nat):Int),.int .i64 (k:Int)]∧k≤x,fun vs _=>match vs with|[_,.int _ k]=>(x-k).toNat|_=>0,⟨rfl,0,by rw[Nat.pow_zero,Nat.div_one]; rfl,by omega⟩,?_⟩
 rintro vs w1 ⟨rfl,k,rfl,hk⟩
 refine⟨_,_,rfl,dec_t fun hlt=>?_,dec_f fun hge=>?_⟩
 ·have e:Int.fdiv ((n / 256 ^ k:Nat):Int) (2 ^ 8)=((n / 256 ^ (k+1):Nat):Int):=by
   rw[Int.fdiv_eq_ediv_of_nonneg _ (by decide),Nat.pow_succ,←Nat.div_div_eq_div_mul]; push_cast; rfl
  rw[e]
  refine⟨⟨rfl,k+1,by rw[wrap64 _ (by omega) (by omega)]; rfl,by omega⟩,?_⟩
  show((x:Int)-IntKind.i64.wrap ((k:Int)+1)).toNat<((x:Int)-(k:Int)).toNat
  rw[wrap64 _ (by omega) (by omega)]; omega
 ·have hkx:k=x:=by omega
  subst hkx
  rw[Nat.div_eq_of_lt hn]
  exact⟨rfl,Ext.refl _⟩
theorem rencode_spec {ns ws:List Nat}(hv:Wid ws) (hl:ns.length=ws.length) (hf:∀(i n x:Nat),ns[i]?=some n→ws[i]?=some x→n<256 ^ x){F:List Nat}{w0 w:World}{Γ:List A}(hT:T F w0 w Γ){g1 g2:Option Nat}{n1 n2 c1 c2:Nat}(hn1:n1=ns.length) (hn2:n2=ws.length)
  (hm1:rowP 70 1 g1 n1 c1 (u64s ns)∈Γ) (hm2:rowP 3 1 g2 n2 c2 (intsN ws)∈Γ):
  Calls Tp 165 #[.slice (ptr g1) n1 c1,.slice (ptr g2) n2 c2] w fun e w'=>e=.returned (.tuple #[.string (strB (encP ns ws)),.int .i64 0])∧T F w0 w' Γ:=by
 subst hn1 hn2
 refine rq (revetmentref03_Encode_calls ?_)
 unfold revetmentref03_Encode
 have hs:=hv.sum
 have hw64:=hv.1
 refine(rpsize_spec hv (T.readsW hT hm2)).mono fun e w1 ⟨he,hx⟩=>⟨_,_,he,no rfl (no (by simp[hl]) ?_)⟩
 have h1:=hT.quiet hx
 refine Alloc.t h1 fun k24 w2 h2=>?_
 have h2:T F w0 w2 (rowP 5 1 (some k24) 0 0 (bvals ((encP ns ws).take 0))::Γ):=blk_row h2 rfl rfl (by decide)
 refine⟨fun vs w'=>∃(i:Nat) (g:Option Nat) (cap:Nat),vs=[.slice (ptr g) (wsum ws i) cap,.int .i64 (i:Int)]∧i≤ws.length∧T F w0 w' (rowP 5 1 g (wsum ws i) cap (bvals ((encP ns ws).take (wsum ws i)))::Γ),fun vs _=>match vs with|[_,.int _ i]=>(ws.length-i).toNat|_=>0,⟨0,some k24,0,rfl,by omega,h2⟩,?_⟩
 rintro vs w3 ⟨i,g,cap,rfl,hi,h3⟩
 refine⟨_,_,_,_,rfl,dec_t fun hlt=>?_,dec_f fun hge=>?_⟩
 ·have hlt:i<ws.length:=by omega
  have hx:ws[i]?=some ws[i]:=by simp[hlt]
  have hn:ns[i]?=some (ns[i]'(by omega)):=by simp[hl,hlt]
  generalize ns[i]'(by omega)=v at hn
  generalize ws[i]=x at hx
  have h8:=hv.at hx
  have hst:=wsum_step hx
  have hmx:=wsum_max (ws:=ws) (i+1)
  obtain⟨b1,rfl,_,_⟩:=T.cell1 hT hm1 (u64s_get hn)
  obtain⟨b2,rfl,_,_⟩:=T.cell1 hT hm2 (ints_get hx)
  have rn:∀{w':World} {Γ':List A},T F w0 w' Γ'→rowP 70 1 (some b1) ns.length c1 (u64s ns)∈Γ'→w'.cell? (Addr.add ⟨b1,0,none⟩ ((i:Int).toNat*1))=some (.int .u64 (v:Int)):=fun h m=>by
   obtain⟨b',hb',_,hc⟩:=T.cell1 h m (u64s_get hn)
   cases hb'
   rw[Int.toNat_natCast]; exact hc
  have rw_:∀{w':World} {Γ':List A},T F w0 w' Γ'→rowP 3 1 (some b2) ws.length c2 (intsN ws)∈Γ'→w'.cell? (Addr.add ⟨b2,0,none⟩ ((i:Int).toNat*1))=some (.int .i64 (x:Int)):=fun h m=>by
   obtain⟨b',hb',_,hc⟩:=T.cell1 h m (ints_get hx)
   cases hb'
   rw[Int.toNat_natCast]; exact hc
  refine⟨fun w'=>T F w0 w' (_::Γ),h3.drew,_,rfl,by omega,by omega,(v:Int),fun w' hd=>rn hd (List.mem_cons_of_mem _ hm1),_,rfl,by omega,by omega,(x:Int),fun w' hd=>rw_ hd (List.mem_cons_of_mem _ hm2),?_⟩
  refine(rfits_spec v x (hf i v x hn hx) h8 _).mono fun e w4 ⟨he,hx4⟩=>⟨_,he,h3.drew.quiet hx4,no rfl ?_⟩
  have h4:=h3.drew.quiet hx4
  refine⟨fun vs w'=>∃(k:Nat) (g:Option Nat) (cap:Nat),vs=[.slice (ptr g) (wsum ws i+k) cap,.int .i64 (k:Int)]∧k≤x∧T F w0 w' (rowP 5 1 g (wsum ws i+k) cap (bvals ((encP ns ws).take (wsum ws i+k)))::Γ),fun vs _=>match vs with|[_,.int _ k]=>(x-k).toNat|_=>0,⟨0,g,cap,rfl,by omega,h4⟩,?_⟩
  rintro vs w5 ⟨k,g',cap',rfl,hk,h5⟩
  refine⟨_,_,_,_,rfl,_,rfl,by omega,by omega,(x:Int),rw_ h5 (List.mem_cons_of_mem _ hm2),dec_t fun hkl=>?_,dec_f fun hkg=>?_⟩
  ·have hk8:IntKind.i64.wrap (8*(k:Int))=((8*k:Nat):Int):=by rw[wrap64 _ (by omega) (by omega)]; omega
   rw[hk8]
   have hbyte:IntKind.u8.wrap (Int.fdiv (v:Int) (2 ^ (min ((8*k:Nat):Int).toNat 64)))=((UInt8.ofNat (v / 2 ^ (8*k))).toNat:Int):=by
    rw[Int.toNat_natCast,Nat.min_eq_left (by omega),Int.fdiv_eq_ediv_of_nonneg _ (Int.le_of_lt (Int.pow_pos (by decide))),wrap8]
    have:((v:Int) / 2 ^ (8*k))=((v / 2 ^ (8*k):Nat):Int):=by push_cast; rfl
    rw[this]
    simp
   refine⟨_,rfl,by omega,by omega,(v:Int),rn h5 (List.mem_cons_of_mem _ hm1),by omega,?_⟩
   rw[hbyte]
   refine push1_t (i:=Tryz.t5) (z:=.int .u8 0) (by kernel_rfl) (by kernel_rfl) (by kernel_rfl) (by kernel_rfl) (by kernel_rfl) (by kernel_rfl) h5 .head rfl (by omega) fun g2 cap2 w7 h7=>⟨⟨k+1,g2,cap2,?_,by omega,?_⟩,?_⟩
   ·rw[wrap64 _ (by omega) (by omega)]; rfl
   ·have e:bvals ((encP ns ws).take (wsum ws i+k))++[.int .u8 ((UInt8.ofNat (v / 2 ^ (8*k))).toNat:Int)]=bvals ((encP ns ws).take (wsum ws i+(k+1))):=by
     rw[←Nat.add_assoc,encP_take_step hx hn (by omega),←bvals_append]; rfl
    rw[e]at h7
    exact h7
   ·show((x:Int)-IntKind.i64.wrap ((k:Int)+1)).toNat<((x:Int)-(k:Int)).toNat
    rw[wrap64 _ (by omega) (by omega)]; omega
  ·have hkx:k=x:=by omega
   subst hkx
   refine⟨⟨i+1,g',cap',?_,by omega,?_⟩,?_⟩
   ·rw[wrap64 _ (by omega) (by omega),hst]; rfl
   ·rw[hst]; exact h5
   ·show((ws.length:Int)-IntKind.i64.wrap ((i:Int)+1)).toNat<((ws.length:Int)-(i:Int)).toNat
    rw[wrap64 _ (by omega) (by omega)]; omega
 ·have hie:i=ws.length:=by omega
  subst hie
  rw[wsum_all ws (Nat.le_refl _)]at h3⊢
  rw[List.take_of_length_le (by rw[encP_len ns ws hl]; exact Nat.le_refl _)]at h3
  exact⟨_,w3,row_string h3 List.mem_cons_self,rfl,h3.drop⟩
theorem rdecode_spec {ws:List Nat}(hv:Wid ws){s:ByteArray}(hsz:s.size=ws.sum){F:List Nat}{w0 w:World}{Γ:List A}(hT:T F w0 w Γ){g2:Option Nat}{n2 c2:Nat}(hn2:n2=ws.length)
  (hm2:rowP 3 1 g2 n2 c2 (intsN ws)∈Γ):
  Calls Tp 99 #[.string s,.slice (ptr g2) n2 c2] w fun e w'=>∃g cap,e=.returned (.tuple #[.slice (ptr g) ws.length cap,.int .i64 0])∧T F w0 w' (rowP 70 1 g ws.length cap (u64s (decP s.data.toList ws))::Γ):=by
 subst hn2
 refine(revetmentref03_Decode_calls (R:=fun v w'=>∃g cap,v=.tuple #[.slice (ptr g) ws.length cap,.int .i64 0]∧T F w0 w' (rowP 70 1 g ws.length cap (u64s (decP s.data.toList ws))::Γ)) ?_).mono fun e w' ⟨v,he,g,cap,hv,h⟩=>⟨g,cap,by rw[he,hv],h⟩
 unfold revetmentref03_Decode
 have hs:=hv.sum
 have hw64:=hv.1
 have hlen:s.data.toList.length=ws.sum:=by rw[Array.length_toList]; exact hsz
 have hdl:(decP s.data.toList ws).length=ws.length:=decP_len _ ws
 refine(rpsize_spec hv (T.readsW hT hm2)).mono fun e w1 ⟨he,hx⟩=>⟨_,_,he,no rfl (no (by rw[hsz]; simp) ?_)⟩
 have h1:=hT.quiet hx
 refine Alloc.t h1 fun k25 w2 h2=>?_
 have h2:T F w0 w2 (rowP 70 1 (some k25) 0 0 (u64s ((decP s.data.toList ws).take 0))::Γ):=blk_row h2 rfl rfl (by decide)
 refine⟨fun vs w'=>∃(i:Nat) (g:Option Nat) (cap:Nat),vs=[.slice (ptr g) i cap,.int .i64 (wsum ws i:Int),.int .i64 (i:Int)]∧i≤ws.length∧T F w0 w' (rowP 70 1 g i cap (u64s ((decP s.data.toList ws).take i))::Γ),fun vs _=>match vs with|[_,_,.int _ i]=>(ws.length-i).toNat|_=>0,⟨0,some k25,0,rfl,by omega,h2⟩,?_⟩
 rintro vs w3 ⟨i,g,cap,rfl,hi,h3⟩
 refine⟨_,_,_,_,_,rfl,dec_t fun hlt=>?_,dec_f fun hge=>?_⟩
 ·have hlt:i<ws.length:=by omega
  have hx:ws[i]?=some ws[i]:=by simp[hlt]
  generalize ws[i]=x at hx
  have h8:=hv.at hx
  have hst:=wsum_step hx
  have hmx:=wsum_max (ws:=ws) (i+1)
  obtain⟨b2,rfl,_,_⟩:=T.cell1 hT hm2 (ints_get hx)
  have rw_:∀{w':World} {Γ':List A},T F w0 w' Γ'→rowP 3 1 (some b2) ws.length c2 (intsN ws)∈Γ'→w'.cell? (Addr.add ⟨b2,0,none⟩ ((i:Int).toNat*1))=some (.int .i64 (x:Int)):=fun h m=>by
   obtain⟨b',hb',_,hc⟩:=T.cell1 h m (ints_get hx)
   cases hb'
   rw[Int.toNat_natCast]; exact hc
  refine⟨fun vs w'=>w'=w3∧∃k:Nat,vs=[.int .u64 (curP s.data.toList ws (wsum ws i+k) i:Int),.int .i64 (k:Int)]∧k≤x,fun vs _=>match vs with|[_,.int _ k]=>(x-k).toNat|_=>0,⟨rfl,0,?_,by omega⟩,?_⟩
  ·have:curP s.data.toList ws (wsum ws i+0) i=0:=by simp[curP,leN]
   rw[this]; rfl
  rintro vs w4 ⟨rfl,k,rfl,hk⟩
  refine⟨_,_,rfl,_,rfl,by omega,by omega,(x:Int),rw_ h3 (List.mem_cons_of_mem _ hm2),dec_t fun hkl=>?_,dec_f fun hkg=>?_⟩
  ·have hkl:k<x:=by omega
   have hb:s.data.toList[wsum ws i+k]?=some (s.data.toList[wsum ws i+k]'(by omega)):=by simp
   generalize s.data.toList[wsum ws i+k]'(by omega)=b at hb
   obtain⟨hst2,hlt2⟩:=curP_step hx hkl hb
   have hbb:=b.toNat_lt
   have hp:(256:Nat) ^ k=2 ^ (8*k):=by rw[Nat.pow_mul]
   rw[hp]at hst2 hlt2
   have hval:curP s.data.toList ws (wsum ws i+k) i+b.toNat*2 ^ (8*k)<18446744073709551616:=by
    have h1:b.toNat*2 ^ (8*k)≤255*2 ^ (8*k):=Nat.mul_le_mul_right _ (by omega)
    have h2:(2:Nat) ^ (8*k)≤2 ^ 56:=Nat.pow_le_pow_right (by decide) (by omega)
    have h3:(2:Nat) ^ 56=72057594037927936:=by decide
    omega
   have hk8:IntKind.i64.wrap (8*(k:Int))=((8*k:Nat):Int):=by rw[wrap64 _ (by omega) (by omega)]; omega
   have hwr:IntKind.u64.wrap (IntKind.u64.wrap ((b.toNat:Nat):Int)*2 ^ (min ((8*k:Nat):Int).toNat 64))=((b.toNat*2 ^ (8*k):Nat):Int):=by
    rw[Int.toNat_natCast,Nat.min_eq_left (by omega)]
    have e1:IntKind.u64.wrap ((b.toNat:Nat):Int)=((b.toNat:Nat):Int):=by rw[wrapU64]; omega
    have e2:((b.toNat:Nat):Int)*2 ^ (8*k)=((b.toNat*2 ^ (8*k):Nat):Int):=by push_cast; rfl
    rw[e1,e2,wrapU64]; omega
   have hor:=or64 hlt2 hval
   have hat:IntKind.i64.wrap ((wsum ws i:Int)+(k:Int))=((wsum ws i+k:Nat):Int):=by rw[wrap64 _ (by omega) (by omega)]; omega
   have hix:=index_str (P:=Tp) (t:=9) (k:=.i64) (n:=((wsum ws i+k:Nat):Int)) (s:=s) (w:=w4) (by kernel_rfl) (by omega) (by omega)
   rw[Int.toNat_natCast]at hix
   have hgd:s.data.toList.getD (wsum ws i+k) 0=b:=by simp[List.getD,hb]
   rw[hgd]at hix
   rw[hat,hk8]
   refine⟨_,w4,hix,by omega,?_⟩
   rw[hwr,hor,←hst2]
   refine⟨⟨rfl,k+1,?_,by omega⟩,?_⟩
   ·rw[wrap64 _ (by omega) (by omega)]; rfl
   ·show((x:Int)-IntKind.i64.wrap ((k:Int)+1)).toNat<((x:Int)-(k:Int)).toNat
    rw[wrap64 _ (by omega) (by omega)]; omega
  ·have hkx:k=x:=by omega
   subst hkx
   have hget:(decP s.data.toList ws)[i]?=some (curP s.data.toList ws (wsum ws i+k) i):=by
    rw[decP_get ws s.data.toList i k hx]
    have:ws.getD i 0=k:=by simp[List.getD,hx]
    unfold curP
    rw[this,Nat.add_sub_cancel_left,Nat.min_self]
   refine push1_t (i:=Tryz.t70) (z:=.int .u64 0) (by kernel_rfl) (by kernel_rfl) (by kernel_rfl) (by kernel_rfl) (by kernel_rfl) (by kernel_rfl) h3 .head rfl (by omega) fun g3 cap3 w7 h7=>?_
   rw[u64s_take _ _ _ hget]at h7
   refine⟨_,rfl,by omega,by omega,(k:Int),rw_ h7 (List.mem_cons_of_mem _ hm2),⟨i+1,g3,cap3,?_,by omega,h7⟩,?_⟩
   ·rw[wrap64 _ (by omega) (by omega),wrap64 _ (by omega) (by omega),hst]
    simp
   ·show((ws.length:Int)-IntKind.i64.wrap ((i:Int)+1)).toNat<((ws.length:Int)-(i:Int)).toNat
    rw[wrap64 _ (by omega) (by omega)]; omega
 ·have hie:i=ws.length:=by omega
  subst hie
  rw[List.take_of_length_le (by omega)]at h3
  exact⟨g,cap,rfl,h3⟩
theorem cellsOf_parts {w w':World}{p:Option Addr}{l:List RP}(H:partsAt w p l) (hx:Ext w w'){i:Nat}{a:Addr}(hp:p=some a) (hi:i<l.length):
  w'.cell? (Addr.add a (i*3))=some (.int .i64 (l[i]).col)∧w'.cell? (Addr.add (Addr.add a (i*3)) 1)=some (.int .i64 (l[i]).off)∧w'.cell? (Addr.add (Addr.add a (i*3)) 2)=some (.string (strB (l[i]).data)):=by
 obtain⟨a',ha,hh⟩:=(H.ext hx).get hi
 rw[hp]at ha; cases ha; exact hh
theorem rplaces_spec {seq:Nat}{row:Int}{p:Option Addr}{c:Nat}{l:List RP}{w:World}(H:partsAt w p l) (hl:l.length≤1000000):Ret Tp 214 #[.agg (rcC seq row p l.length c)] w (.bool (decide (PlacedR row l))):=by
 refine ret_of (revetmentref12_places_calls ?_)
 unfold revetmentref12_places
 refine Alloc.t (T.nil w) fun k1 w1 h1=>?_
 have h1:T [] w w1 [blk k1 (rcC seq row p l.length c) 79]:=h1
 have bad:∀{w':World},Ext w w'→¬PlacedR row l→RetR w (.bool (decide (PlacedR row l))) (.bool false) w':=fun hx hn=>⟨by rw[decide_eq_false hn],hx⟩
 have sl:∀{w':World} {Γ:List A},T [] w w' Γ→blk k1 (rcC seq row p l.length c) 79∈Γ→w'.cell? ⟨k1,2,none⟩=some (.slice p l.length c):=fun h hm=>h.ld (c:=rcC seq row p l.length c) (i:=2) hm rfl
 refine⟨_,h1.ld (b:=k1) (c:=rcC seq row p l.length c) (i:=1) (by repeat constructor) rfl,dec_t fun h=>bad h1.chg.ext (fun hp=>by have:=hp.1; omega),dec_f fun r0=>?_⟩
 refine⟨_,h1.ld (b:=k1) (c:=rcC seq row p l.length c) (i:=1) (by repeat constructor) rfl,dec_t fun h=>bad h1.chg.ext (fun hp=>by have:=hp.2.1; omega),dec_f fun r256=>?_⟩
 refine⟨_,_,_,sl h1 (by repeat constructor),dec_t fun h=>bad h1.chg.ext (fun hp=>by have:=hp.2.2.1; omega),dec_f fun l0=>?_⟩
 refine⟨_,_,_,sl h1 (by repeat constructor),dec_t fun h=>bad h1.chg.ext (fun hp=>by have:=hp.2.2.2.1; omega),dec_f fun l40=>?_⟩
 refine⟨fun vs w'=>∃i:Nat,vs=[.int .i64 (i:Int)]∧i≤l.length∧(∀x∈l.take i,0≤x.col∧x.col<10∧0≤x.off∧x.off<4)∧((l.take i).map fun x=>(x.col,x.off)).Nodup∧T [] w w' [blk k1 (rcC seq row p l.length c) 79],fun vs _=>match vs with|[.int _ i]=>(l.length-i).toNat|_=>0,⟨0,rfl,by omega,by simp,by simp,h1⟩,?_⟩
 rintro vs w2 ⟨i,rfl,hi,hr,hnd,h2⟩
 refine⟨_,rfl,_,_,_,sl h2 (by repeat constructor),dec_t fun hlt=>?_,dec_f fun hge=>?_⟩
 ·have hlt:i<l.length:=by omega
  obtain⟨a,ha,_⟩:=H.get hlt
  obtain⟨c0,c1,c2⟩:=cellsOf_parts H h2.chg.ext ha hlt
  have hmem:l[i]∈l:=List.getElem_mem hlt
  have hnext:=map_take_next hlt
  have hms:((l.length:Int)-IntKind.i64.wrap ((i:Int)+1)).toNat<((l.length:Int)-(i:Int)).toNat:=by rw[wrap64 _ (by omega) (by omega)]; omega
  have hnx:IntKind.i64.wrap ((i:Int)+1)=((i+1:Nat):Int):=by rw[wrap64 _ (by omega) (by omega)]; omega
  generalize hx:l[i]=x at c0 c1 c2 hmem hnext
  refine⟨_,_,_,sl h2 (by repeat constructor),a,ha,by omega,by omega,x.col,x.off,strB x.data,⟨by rw[Int.toNat_natCast]; exact c0,by rw[Int.toNat_natCast]; exact c1,by rw[Int.toNat_natCast]; exact c2⟩,?_⟩
  refine Alloc.t h2 fun k4 w3 h3=>St3.t h3 fun w6 h6=>?_
  refine⟨_,h6.ld (b:=k4) (c:=rpC x) (by repeat constructor) rfl,dec_t fun h=>bad h6.chg.ext (fun hp=>by have:=hp.2.2.2.2.1 x hmem; omega),dec_f fun q1=>?_⟩
  refine⟨_,h6.ld (b:=k4) (c:=rpC x) (by repeat constructor) rfl,dec_t fun h=>bad h6.chg.ext (fun hp=>by have:=hp.2.2.2.2.1 x hmem; omega),dec_f fun q2=>?_⟩
  refine⟨_,h6.ld (b:=k4) (c:=rpC x) (i:=1) (by repeat constructor) rfl,dec_t fun h=>bad h6.chg.ext (fun hp=>by have:=hp.2.2.2.2.1 x hmem; omega),dec_f fun q3=>?_⟩
  refine⟨_,h6.ld (b:=k4) (c:=rpC x) (i:=1) (by repeat constructor) rfl,dec_t fun h=>bad h6.chg.ext (fun hp=>by have:=hp.2.2.2.2.1 x hmem; omega),dec_f fun q4=>?_⟩
  refine⟨fun vs w'=>∃j:Nat,vs=[.int .i64 (j:Int)]∧j≤i∧(∀y∈l.take j,¬(y.col=x.col∧y.off=x.off))∧T [] w w' [blk k4 (rpC x) 136,blk k1 (rcC seq row p l.length c) 79],fun vs _=>match vs with|[.int _ j]=>(i-j).toNat|_=>0,⟨0,rfl,by omega,by simp,h6⟩,?_⟩
  rintro vs w7 ⟨j,rfl,hj,hne,h7⟩
  refine⟨_,rfl,dec_t fun hjl=>?_,dec_f fun hjg=>?_⟩
  ·have hjl:j<i:=by omega
   have hjl2:j<l.length:=by omega
   have hstep:∀y,l[j]=y→¬(y.col=x.col∧y.off=x.off)→∀z∈l.take (j+1),¬(z.col=x.col∧z.off=x.off):=fun y hy hn z hz=>by
    rw[List.take_add_one,List.getElem?_eq_getElem hjl2]at hz
    rcases List.mem_append.1 hz with hz|hz
    ·exact hne z hz
    ·have:z=y:=by rw[←hy]; simpa using hz
     rw[this]; exact hn
   have hjm:((i:Int)-IntKind.i64.wrap ((j:Int)+1)).toNat<((i:Int)-(j:Int)).toNat:=by rw[wrap64 _ (by omega) (by omega)]; omega
   have hjx:IntKind.i64.wrap ((j:Int)+1)=((j+1:Nat):Int):=by rw[wrap64 _ (by omega) (by omega)]; omega
   have hcj:=fun(w':World) (hx:Ext w w')=>cellsOf_parts H hx ha hjl2
   have hmj:l[j]∈l.take i:=List.mem_take_iff_getElem.2 ⟨j,by omega,rfl⟩
   generalize l[j]=y at hstep hcj hmj
   have kk:∀(b:Bool),b=false→T [] w w7.drew [blk k4 (rpC x) 136,blk k1 (rcC seq row p l.length c) 79]:=fun _ _=>h7.drew
   refine⟨fun w'=>T [] w w' [blk k4 (rpC x) 136,blk k1 (rcC seq row p l.length c) 79],h7.drew,_,_,_,fun w' h'=>sl h' (by repeat constructor),a,ha,by omega,by omega,y.col,fun w' h'=>by rw[Int.toNat_natCast]; exact(hcj w' h'.chg.ext).1,x.col,fun w' h'=>h'.ld (b:=k4) (c:=rpC x) (by repeat constructor) rfl,beq_t fun hcc=>?_,beq_f fun hcn=>?_⟩
   ·refine⟨_,_,_,fun w' h'=>sl h' (by repeat constructor),a,ha,by omega,by omega,y.off,fun w' h'=>by rw[Int.toNat_natCast]; exact(hcj w' h'.chg.ext).2.1,x.off,fun w' h'=>h'.ld (b:=k4) (c:=rpC x) (i:=1) (by repeat constructor) rfl,beq_t fun hoo=>?_,beq_f fun hon=>?_⟩
    ·refine bad h7.drew.chg.ext fun hp=>?_
     have h1:((l.take (i+1)).map fun x=>(x.col,x.off)).Nodup:=List.Nodup.sublist ((List.take_sublist _ _).map _) hp.2.2.2.2.2
     rw[hnext,List.nodup_append]at h1
     exact h1.2.2 (x.col,x.off) (List.mem_map.2 ⟨y,hmj,by rw[hcc,hoo]⟩) _ List.mem_cons_self rfl
    ·exact⟨⟨j+1,by rw[hjx],by omega,hstep y rfl (fun hh=>hon hh.2),h7.drew⟩,hjm⟩
   ·exact⟨⟨j+1,by rw[hjx],by omega,hstep y rfl (fun hh=>hcn hh.1),h7.drew⟩,hjm⟩
  ·have hje:j=i:=by omega
   subst hje
   refine⟨⟨j+1,by rw[hnx],by omega,fun y hy=>?_,?_,T.drop h7⟩,hms⟩
   ·rw[List.take_add_one,List.getElem?_eq_getElem hlt]at hy
    rcases List.mem_append.1 hy with hy|hy
    ·exact hr y hy
    ·have:y=x:=by rw[hx]at hy; simpa using hy
     rw[this]; omega
   ·rw[hnext,List.nodup_append]
    exact⟨hnd,by simp,fun u hu v hv e=>by
     have:v=(x.col,x.off):=by simpa using hv
     rw[e,this]at hu
     obtain⟨y,hy,hyx⟩:=List.mem_map.1 hu
     exact hne y hy ⟨congrArg Prod.fst hyx,congrArg Prod.snd hyx⟩⟩
 ·have hie:i=l.length:=by omega
  subst hie
  rw[List.take_length]at hr hnd
  exact⟨by rw[decide_eq_true ⟨by omega,by omega,by omega,by omega,hr,hnd⟩],h2.chg.ext⟩
theorem rplB_val {x:RP}(h:0≤x.col∧x.col<10∧0≤x.off∧x.off<4):IntKind.u8.wrap (IntKind.i64.wrap (IntKind.i64.wrap (4*x.col)+x.off))=((plB x).toNat:Int):=by
 obtain⟨c,hc⟩:∃c:Fin 10,x.col=(c.1:Int):=⟨⟨x.col.toNat,by omega⟩,by show x.col=((x.col.toNat:Nat):Int); omega⟩
 obtain⟨o,ho⟩:∃o:Fin 4,x.off=(o.1:Int):=⟨⟨x.off.toNat,by omega⟩,by show x.off=((x.off.toNat:Nat):Int); omega⟩
 unfold plB
 rw[hc,ho,Int.toNat_natCast,Int.toNat_natCast]
 have key:∀(c:Fin 10) (o:Fin 4),IntKind.u8.wrap (IntKind.i64.wrap (IntKind.i64.wrap (4*((c.1:Nat):Int))+((o.1:Nat):Int)))=((UInt8.ofNat (4*c.1+o.1)).toNat:Int):=by decide +kernel
 exact key c o
theorem rhead12_spec {seq:Nat}{row:Int}{p:Option Addr}{c:Nat}{l:List RP}{sum:B32}{w:World}(hs:seq<2 ^ 64) (hP:PlacedR row l) (H:partsAt w p l):Ret Tp 215 #[.agg (rcC seq row p l.length c),u32v sum] w (.string (strB (headR seq row l sum))):=by
 refine ret_of (revetmentref12_head_calls ?_)
 unfold revetmentref12_head
 have hr0:=hP.1
 have hr1:=hP.2.1
 have hl40:=hP.2.2.2.1
 refine Alloc.t (T.nil w) fun k2 w1 h1=>?_
 have h1:T [] w w1 [blk k2 (rcC seq row p l.length c) 79]:=h1
 have sl:∀{w':World} {Γ:List A},T [] w w' Γ→blk k2 (rcC seq row p l.length c) 79∈Γ→w'.cell? ⟨k2,2,none⟩=some (.slice p l.length c):=fun h hm=>h.ld (c:=rcC seq row p l.length c) (i:=2) hm rfl
 refine⟨_,h1.ld (b:=k2) (c:=rcC seq row p l.length c) (by repeat constructor) rfl,_,h1.ld (b:=k2) (c:=rcC seq row p l.length c) (i:=1) (by repeat constructor) rfl,_,_,_,sl h1 (by repeat constructor),?_⟩
 have e1:IntKind.u64.wrap row=((row.toNat:Nat):Int):=by rw[wrapU64]; omega
 have e2:IntKind.u64.wrap (l.length:Int)=(l.length:Int):=by rw[wrapU64]; omega
 have e3:IntKind.u64.wrap ((sum.toNat:Nat):Int)=(sum.toNat:Int):=by have:=b32_lt sum; rw[wrapU64]; omega
 rw[e1,e2,e3]
 refine Alloc.t h1 fun k23 w2 h2=>?_
 have h2:T [] w w2 (rowP 70 1 (some k23) 4 4 (u64s [seq,row.toNat,l.length,sum.toNat])::[blk k2 (rcC seq row p l.length c) 79]):=blk_row h2 rfl rfl (by decide)
 refine Alloc.t h2 fun k24 w3 h3=>?_
 have h3:T [] w w3 (rowP 3 1 (some k24) 4 4 (intsN [8,2,1,4])::rowP 70 1 (some k23) 4 4 (u64s [seq,row.toNat,l.length,sum.toNat])::[blk k2 (rcC seq row p l.length c) 79]):=blk_row h3 rfl rfl (by decide)
 have hfit:∀(i n x:Nat),[seq,row.toNat,l.length,sum.toNat][i]?=some n→[8,2,1,4][i]?=some x→n<256 ^ x:=fun i n x hn hx=>by
  have s4:=sum.isLt
  have q8:(256:Nat) ^ 8=2 ^ 64:=by decide
  have q4:(256:Nat) ^ 4=2 ^ 32:=by decide
  match i,hn,hx with
  |0,hn,hx=>cases hn; cases hx; omega
  |1,hn,hx=>cases hn; cases hx; omega
  |2,hn,hx=>cases hn; cases hx; omega
  |3,hn,hx=>cases hn; cases hx; omega
  |i+4,hn,_=>simp at hn
 obtain⟨sP,hsP,hpl,hfr⟩:∃sP,encP [seq,row.toNat,l.length,sum.toNat] [8,2,1,4]=sP∧sP.length=15∧magJ++sP=frontR seq row l.length sum:=⟨_,rfl,encP_len [seq,row.toNat,l.length,sum.toNat] [8,2,1,4] rfl,by unfold frontR; rfl⟩
 have hpk:=rencode_spec (ns:=[seq,row.toNat,l.length,sum.toNat]) (ws:=[8,2,1,4]) wid4 rfl hfit h3 (g1:=some k23) (g2:=some k24) (n1:=4) (n2:=4) (c1:=4) (c2:=4) rfl rfl (List.mem_cons_of_mem _ List.mem_cons_self) List.mem_cons_self
 rw[hsP]at hpk
 refine hpk.mono fun e w4 ⟨he4,h4⟩=>⟨_,_,he4,?_⟩
 have h4:T [] w w4 [blk k2 (rcC seq row p l.length c) 79]:=h4.drop.drop
 have eJ:(ByteArray.mk #[82,86,84,74])=strB magJ:=rfl
 try dsimp only
 rw[eJ,strB_append,hfr,strB_size,strB_size,hpl]
 refine⟨by decide,?_⟩
 have hfl:=frontR_len seq row l.length sum
 refine⟨fun vs w'=>∃(i:Nat),vs=[.string (strB (frontR seq row l.length sum++(l.take i).map plB)),.int .i64 (i:Int)]∧i≤l.length∧T [] w w' [blk k2 (rcC seq row p l.length c) 79],fun vs _=>match vs with|[_,.int _ i]=>(l.length-i).toNat|_=>0,⟨0,by simp,by omega,h4⟩,?_⟩
 rintro vs w5 ⟨i,rfl,hi,h5⟩
 refine⟨_,_,rfl,_,_,_,sl h5 (by repeat constructor),dec_t fun hlt=>?_,dec_f fun hge=>?_⟩
 ·have hlt:i<l.length:=by omega
  obtain⟨a,ha,_⟩:=H.get hlt
  have hcj:=fun(w':World) (hx:Ext w w')=>cellsOf_parts H hx ha hlt
  have hmem:l[i]∈l:=List.getElem_mem hlt
  have hnext:(l.take (i+1)).map plB=(l.take i).map plB++[plB l[i]]:=by rw[List.take_add_one,List.getElem?_eq_getElem hlt,List.map_append]; rfl
  generalize l[i]=x at hcj hmem hnext
  refine⟨fun w'=>∃Δ,T [] w w' (Δ++[blk k2 (rcC seq row p l.length c) 79]),⟨[],h5.drew⟩,_,_,_,fun w' ⟨Δ,h'⟩=>sl h' (List.mem_append_right _ List.mem_cons_self),a,ha,by omega,by omega,x.col,fun w' ⟨Δ,h'⟩=>by rw[Int.toNat_natCast]; exact(hcj w' h'.chg.ext).1,_,_,_,fun w' ⟨Δ,h'⟩=>sl h' (List.mem_append_right _ List.mem_cons_self),a,ha,by omega,by omega,x.off,fun w' ⟨Δ,h'⟩=>by rw[Int.toNat_natCast]; exact(hcj w' h'.chg.ext).2.1,?_⟩
  rw[rplB_val (hP.2.2.2.2.1 x hmem)]
  refine Alloc.t h5.drew fun k53 w6 h6=>⟨⟨[_],h6⟩,?_⟩
  have h6:T [] w w6 (rowP 5 1 (some k53) 1 1 (bvals [plB x])::[blk k2 (rcC seq row p l.length c) 79]):=blk_row h6 rfl rfl (by decide)
  refine⟨strB [plB x],fun x0 e0=>by subst e0; exact row_string h6 List.mem_cons_self,?_,⟨i+1,?_,by omega,h6.drop⟩,?_⟩
  ·rw[strB_size,strB_size,List.length_append,hfl,List.length_map,List.length_take]
   simp; omega
  ·rw[strB_append,hnext,List.append_assoc,wrap64 _ (by omega) (by omega)]; rfl
  ·show((l.length:Int)-IntKind.i64.wrap ((i:Int)+1)).toNat<((l.length:Int)-(i:Int)).toNat
   rw[wrap64 _ (by omega) (by omega)]; omega
 ·have hie:i=l.length:=by omega
  subst hie
  rw[List.take_length]
  exact(rseal_spec (strB (frontR seq row l.length sum++l.map plB)) 64 (by rw[strB_size,List.length_append,hfl,List.length_map]; omega) (by omega) w5).mono fun e w7 ⟨he7,hx7⟩=>⟨_,_,he7,rfl,h5.chg.ext.trans hx7⟩
section
variable {F:List Nat}{w0 w:World}{Γ:List A}
theorem rpart_cells (b:UInt8):IntKind.i64.wrap (Int.tdiv (IntKind.i64.wrap (b.toNat:Int)) 4)=((b.toNat / 4:Nat):Int)∧Int.tmod (IntKind.i64.wrap (b.toNat:Int)) 4=((b.toNat%4:Nat):Int):=by
 have key:∀n:Fin 256,IntKind.i64.wrap (Int.tdiv (IntKind.i64.wrap ((n.1:Nat):Int)) 4)=((n.1 / 4:Nat):Int)∧Int.tmod (IntKind.i64.wrap ((n.1:Nat):Int)) 4=((n.1%4:Nat):Int):=by decide +kernel
 exact key ⟨b.toNat,b.toNat_lt⟩
theorem rhead12_dec (hT:T F w0 w Γ) (b:List UInt8) (hb:b.length≤1000000):Calls Tp 173 #[.string (strB b)] w fun e w'=>∃g cap,e=.returned (hdV (decH b) g cap)∧T F w0 w' (rowP 136 3 g (decH b).1.2.2.1.length cap (rpL (decH b).1.2.2.1)::Γ):=by
 refine(revetmentref12_Head_calls (R:=fun v w'=>∃g cap,v=hdV (decH b) g cap∧T F w0 w' (rowP 136 3 g (decH b).1.2.2.1.length cap (rpL (decH b).1.2.2.1)::Γ)) ?_).mono fun e w' ⟨v,he,g,cap,hv,h⟩=>⟨g,cap,by rw[he,hv],h⟩
 unfold revetmentref12_Head
 refine Alloc.t hT fun k2 w1 h1=>?_
 have h1:T F w0 w1 ([]++blk k2 zR 79::Γ):=h1
 have bad:∀(w':World) (Δ:List A) (x:Int),T F w0 w' (Δ++blk k2 zR 79::Γ)→decH b=(zH,x)→
   St ⟨k2,0,none⟩ (.int .u64 0) w' fun w2=>St ⟨k2,1,none⟩ (.int .i64 0) w2 fun w3=>St ⟨k2,2,none⟩ (.slice none 0 0) w3 fun w4=>∃nr2_0:Int,∃nr2_1:Int,∃(pr2_2:Option Addr) (lr2_2 cr2_2:Nat),(w4.cell? ⟨k2,0,none⟩=some (.int .u64 nr2_0)∧w4.cell? ⟨k2,1,none⟩=some (.int .i64 nr2_1)∧w4.cell? ⟨k2,2,none⟩=some (.slice pr2_2 lr2_2 cr2_2))∧
    ∃g cap,(Value.tuple #[.agg #[.int .u64 nr2_0,.int .i64 nr2_1,.slice pr2_2 lr2_2 cr2_2],.int .u32 0,.int .i64 x])=hdV (decH b) g cap∧T F w0 w4 (rowP 136 3 g (decH b).1.2.2.1.length cap (rpL (decH b).1.2.2.1)::Γ):=by
  intro w' Δ x hT' hd
  have hT':=T.back hT'
  refine St.t (c:=zR) (c':=zR) hT' .head (show 0<3 by decide) rfl rfl fun w2 h2=>St.t (c:=zR) (c':=zR) h2 .head (show 1<3 by decide) rfl rfl fun w3 h3=>St.t (c:=zR) (c':=zR) h3 .head (show 2<3 by decide) rfl rfl fun w4 h4=>?_
  refine⟨_,_,_,_,_,⟨h4.ld (c:=zR) List.mem_cons_self rfl,h4.ld (c:=zR) (i:=1) List.mem_cons_self rfl,h4.ld (c:=zR) (i:=2) List.mem_cons_self rfl⟩,none,0,?_,?_⟩
  ·rw[hd]; rfl
  ·rw[hd]; exact T.nilRow h4.drop _ _
 rw[strB_size]
 refine⟨bne_t fun hne=>bad w1 [] 31 h1 (by unfold decH; rw[if_pos (by omega)]),bne_f fun heq=>?_⟩
 have h64:b.length=64:=by omega
 have eb:(strB b).data.toList=b:=rfl
 refine(ropen_spec (strB b) (by rw[strB_size]; omega) w1).mono fun e w5 ⟨he5,hx5⟩=>⟨_,_,he5,?_⟩
 try dsimp only
 try rw[eb]
 have h5:=h1.quiet hx5
 refine⟨not_t fun ho=>bad w5 [] 80 h5 (by unfold decH; rw[if_neg (by omega),if_pos ho]),not_f fun ho=>?_⟩
 rw[openB_take h64 ho]
 have hl60:(b.take 60).length=60:=by rw[List.length_take]; omega
 have s4:=slice_to (P:=Tp) (t:=9) (k:=.i64) (s:=strB (b.take 60)) (hi:=4) (w:=w5) (by kernel_rfl) (by omega) (by rw[strB_size,hl60]; omega)
 have e4:(strB (b.take 60)).extract 0 (4:Int).toNat=strB (b.take 4):=by
  rw[strB_extract,List.drop_zero,List.take_take]; rfl
 rw[e4]at s4
 refine⟨_,w5,s4,?_⟩
 have eJ:(ByteArray.mk #[82,86,84,74])=strB magJ:=rfl
 rw[eJ,strB_toList,strB_toList]
 refine⟨not_t fun hq=>bad w5 [] 81 h5 (by unfold decH; rw[if_neg (by omega),if_neg (by rw[ho]; simp),if_pos (by simpa using hq)]),not_f fun hq=>?_⟩
 have hmag:b.take 4=magJ:=by simpa using hq
 have s1:=slice_mid (P:=Tp) (t:=9) (k:=.i64) (k':=.i64) (s:=strB (b.take 60)) (lo:=4) (hi:=19) (w:=w5) (by kernel_rfl) (by omega) (by omega) (by rw[strB_size,hl60]; omega)
 rw[strB_extract]at s1
 have e1:(((b.take 60).drop (4:Int).toNat).take ((19:Int).toNat-(4:Int).toNat))=(b.drop 4).take 15:=mid60 b 4 15 (by omega)
 rw[e1]at s1
 refine⟨_,w5,s1,Alloc.t h5 fun k31 w14 h14=>?_⟩
 have h14:T F w0 w14 (rowP 3 1 (some k31) 4 4 (intsN [8,2,1,4])::blk k2 zR 79::Γ):=blk_row h14 rfl rfl (by decide)
 have hl15:((b.drop 4).take 15).length=15:=by rw[List.length_take,List.length_drop]; omega
 refine(rdecode_spec (ws:=[8,2,1,4]) wid4 (s:=strB ((b.drop 4).take 15)) (by rw[strB_size,hl15]; rfl) h14 (g2:=some k31) (n2:=4) (c2:=4) rfl List.mem_cons_self).mono fun e w15 ⟨g35,c35,he15,h15⟩=>⟨_,_,_,_,he15,?_⟩
 obtain⟨b35,rfl⟩:=rowP.pos (h15.says List.mem_cons_self) (by decide)
 try dsimp only
 rw[dec_four b h64]at h15
 have hho:headOf b=(leN ((b.drop 4).take 8),((leN ((b.drop 12).take 2):Nat):Int),(((b.take 60).drop 19).take (leN ((b.drop 14).take 1))).map partOf,BitVec.ofNat 32 (leN ((b.drop 15).take 4))):=rfl
 have bA:leN ((b.drop 4).take 8)<2 ^ 64:=by
  have:=leN_lt ((b.drop 4).take 8)
  rw[show((b.drop 4).take 8).length=8 by rw[List.length_take,List.length_drop]; omega]at this
  have q8:(256:Nat) ^ 8=2 ^ 64:=by decide
  omega
 have bB:leN ((b.drop 12).take 2)<65536:=by
  have:=leN_lt ((b.drop 12).take 2)
  rw[show((b.drop 12).take 2).length=2 by rw[List.length_take,List.length_drop]; omega]at this
  omega
 have bC:leN ((b.drop 14).take 1)<256:=by
  have:=leN_lt ((b.drop 14).take 1)
  rw[show((b.drop 14).take 1).length=1 by rw[List.length_take,List.length_drop]; omega]at this
  omega
 have hdec:decH b=if PlacedR (headOf b).2.1 (headOf b).2.2.1∧headR (headOf b).1 (headOf b).2.1 (headOf b).2.2.1 (headOf b).2.2.2=b then (headOf b,0) else (zH,1):=by
  unfold decH; rw[if_neg (by omega),if_neg (by rw[ho]; decide),if_neg (by simpa using hmag)]
 rw[hho]at hdec
 generalize leN ((b.drop 4).take 8)=nA at h15 hdec bA
 generalize leN ((b.drop 12).take 2)=nB at h15 hdec bB
 generalize leN ((b.drop 14).take 1)=nC at h15 hdec bC
 generalize leN ((b.drop 15).take 4)=nD at h15 hdec
 have hl41:((b.take 60).drop 19).length=41:=by rw[List.length_drop,hl60]
 have cellU:∀{w':World} {Δ:List A} (j x:Nat),T F w0 w' Δ→rowP 70 1 (some b35) [8,2,1,4].length c35 (u64s [nA,nB,nC,nD])∈Δ→[nA,nB,nC,nD][j]?=some x→w'.cell? ⟨b35,j,none⟩=some (.int .u64 (x:Int)):=fun j x h hm hj=>rowP.cell (k:=j) (h.says hm) (by unfold u64s; rw[List.getElem?_map,hj]; rfl)
 refine⟨fun w'=>∃Δ,rowP 70 1 (some b35) [8,2,1,4].length c35 (u64s [nA,nB,nC,nD])∈Δ∧T F w0 w' Δ,⟨_,List.mem_cons_self,h15.drew⟩,⟨b35,0,none⟩,rfl,by omega,by decide,(nA:Int),fun w' ⟨Δ,hm',h'⟩=>cellU 0 nA h' hm' rfl,⟨b35,0,none⟩,rfl,by omega,by decide,(nB:Int),fun w' ⟨Δ,hm',h'⟩=>by rw[addr_add]; exact cellU 1 nB h' hm' rfl,?_⟩
 refine Alloc.t h15.drew fun k9 w16 h16=>⟨⟨_,List.mem_cons_of_mem _ List.mem_cons_self,h16⟩,?_⟩
 have eB:IntKind.i64.wrap (nB:Int)=(nB:Int):=wrap64 _ (by omega) (by omega)
 have eC:IntKind.i64.wrap (nC:Int)=(nC:Int):=wrap64 _ (by omega) (by omega)
 rw[eB]
 refine St.t (c:=zR) (c':=#[.int .u64 (nA:Int),.int .i64 0,.slice none 0 0]) h16 .head (show 0<3 by decide) rfl rfl fun w17 h17=>St.t (c':=#[.int .u64 (nA:Int),.int .i64 (nB:Int),.slice none 0 0]) h17 .head (show 1<3 by decide) rfl rfl fun w18 h18=>St.t (c':=rcC nA (nB:Int) none 0 0) h18 .head (show 2<3 by decide) rfl rfl fun w19 h19=>?_
 refine⟨⟨b35,0,none⟩,rfl,by omega,by decide,(nC:Int),by rw[addr_add]; exact cellU 2 nC h19 (List.mem_cons_of_mem _ List.mem_cons_self) rfl,?_⟩
 have hbig:((nC:Nat):Int)>40→¬(PlacedR (nB:Int) ((((b.take 60).drop 19).take nC).map partOf)∧headR nA (nB:Int) ((((b.take 60).drop 19).take nC).map partOf) (BitVec.ofNat 32 nD)=b):=fun h40 hq=>by
  have:=hq.1.2.2.2.1
  rw[List.length_map,List.length_take]at this
  omega
 refine⟨dec_t fun h40=>bad w19 [_,_,_] 1 h19 (by rw[hdec]; exact if_neg (hbig h40)),dec_f fun h40=>?_⟩
 have h40:nC≤40:=by omega
 have hpl:(((b.take 60).drop 19).take nC).length=nC:=by rw[List.length_take]; omega
 have hpx:∀i,i<nC→(((b.take 60).drop 19).take nC)[i]?=some ((b.take 60).getD (19+i) 0):=fun i hi=>by
  rw[List.getElem?_take,if_pos hi,List.getElem?_drop,List.getD_eq_getElem?_getD,List.getElem?_eq_getElem (by omega)]; rfl
 generalize ((b.take 60).drop 19).take nC=pb at hdec hpl hpx
 refine⟨fun vs w'=>∃(i:Nat) (g:Option Nat) (cap:Nat),vs=[.int .i64 (i:Int)]∧i≤nC∧T F w0 w' (rowP 136 3 g i cap (rpL ((pb.take i).map partOf))::blk k9 (rcC nA (nB:Int) (ptr g) i cap) 79::rowP 70 1 (some b35) [8,2,1,4].length c35 (u64s [nA,nB,nC,nD])::rowP 3 1 (some k31) 4 4 (intsN [8,2,1,4])::blk k2 zR 79::Γ),fun vs _=>match vs with|[.int _ i]=>(nC-i).toNat|_=>0,⟨0,none,0,rfl,by omega,T.nilRow h19 _ _⟩,?_⟩
 rintro vs w23 ⟨i,g,cap,rfl,hi,h23⟩
 have m2:∀{a1 a2:A} {L:List A},a2∈a1::a2::L:=fun {a1 a2 L}=>List.mem_cons_of_mem _ List.mem_cons_self
 have m3:∀{a1 a2 a3:A} {L:List A},a3∈a1::a2::a3::L:=fun {a1 a2 a3 L}=>List.mem_cons_of_mem _ (List.mem_cons_of_mem _ List.mem_cons_self)
 refine⟨_,rfl,⟨b35,0,none⟩,rfl,by omega,by decide,(nC:Int),by rw[addr_add]; exact cellU 2 nC h23 m3 rfl,?_⟩
 rw[eC]
 refine⟨dec_t fun hlt=>?_,dec_f fun hge=>?_⟩
 ·have hlt:i<nC:=by omega
  have hxi:=hpx i hlt
  have hnext:∀x,pb[i]?=some x→rpL ((pb.take i).map partOf)++(rpC (partOf x)).toList=rpL ((pb.take (i+1)).map partOf):=fun x hx=>by
   rw[rpL_snoc',List.take_add_one,hx,List.map_append]; rfl
  have ix:=index_str (P:=Tp) (t:=9) (k:=.i64) (n:=19+(i:Int)) (s:=strB (b.take 60)) (w:=w23) (by kernel_rfl) (by omega) (by rw[strB_size,hl60]; omega)
  have e19:(19+(i:Int)).toNat=19+i:=by omega
  have eb60:(strB (b.take 60)).data.toList=b.take 60:=rfl
  rw[e19,eb60]at ix
  have hnext:=hnext _ hxi
  generalize (b.take 60).getD (19+i) 0=x at ix hnext
  rw[wrap64 (19+(i:Int)) (by omega) (by omega)]
  refine⟨_,w23,ix,_,_,_,h23.ld (b:=k9) (c:=rcC nA (nB:Int) (ptr g) i cap) (i:=2) m2 rfl,?_⟩
  rw[(rpart_cells x).1,(rpart_cells x).2]
  refine pushN_t (P:=Tp) (t:=76) (i:=Tryz.t136) (z:=.agg #[.int .i64 0,.int .i64 0,.string (ByteArray.mk #[])]) (c:=rpC (partOf x)) (size:=3) (by kernel_rfl) (by kernel_rfl) (by kernel_rfl) (by kernel_rfl) (by kernel_rfl) (by kernel_rfl) h23 .head rfl (fun u hu=>?_) (by omega) fun g' cap' w28 h28=>?_
  ·have hu:u∈[Value.int .i64 (partOf x).col,.int .i64 (partOf x).off,.string (strB (partOf x).data)]:=hu
   simp only[List.mem_cons,List.not_mem_nil,or_false]at hu
   rcases hu with rfl|rfl|rfl<;>rfl
  ·rw[hnext]at h28
   refine St.t (c:=rcC nA (nB:Int) (ptr g) i cap) (c':=rcC nA (nB:Int) (ptr g') (i+1) cap') h28 (.tail .head) (show 2<3 by decide) rfl rfl fun w29 h29=>⟨⟨i+1,g',cap',?_,by omega,h29⟩,?_⟩
   ·rw[wrap64 _ (by omega) (by omega)]; rfl
   ·show((nC:Int)-IntKind.i64.wrap ((i:Int)+1)).toNat<((nC:Int)-(i:Int)).toNat
    rw[wrap64 _ (by omega) (by omega)]; omega
 ·have hie:i=(pb.map partOf).length:=by rw[List.length_map]; omega
  subst hie
  rw[List.take_of_length_le (by rw[List.length_map]; omega)]at h23
  have hps:(pb.map partOf).length≤40:=by rw[List.length_map,hpl]; exact h40
  generalize pb.map partOf=ps at h23 hdec hps
  have rd:∀{w':World} {Δ:List A},T F w0 w' Δ→blk k9 (rcC nA (nB:Int) (ptr g) ps.length cap) 79∈Δ→w'.cell? ⟨k9,0,none⟩=some (.int .u64 (nA:Int))∧w'.cell? ⟨k9,1,none⟩=some (.int .i64 (nB:Int))∧w'.cell? ⟨k9,2,none⟩=some (.slice (ptr g) ps.length cap):=fun h hm=>⟨h.ld (c:=rcC nA (nB:Int) (ptr g) ps.length cap) hm rfl,h.ld (c:=rcC nA (nB:Int) (ptr g) ps.length cap) (i:=1) hm rfl,h.ld (c:=rcC nA (nB:Int) (ptr g) ps.length cap) (i:=2) hm rfl⟩
  have hD:∀{w':World},T F w0 w' (rowP 136 3 g ps.length cap (rpL ps)::blk k9 (rcC nA (nB:Int) (ptr g) ps.length cap) 79::rowP 70 1 (some b35) [8,2,1,4].length c35 (u64s [nA,nB,nC,nD])::rowP 3 1 (some k31) 4 4 (intsN [8,2,1,4])::blk k2 zR 79::Γ)→∃Δ,blk k9 (rcC nA (nB:Int) (ptr g) ps.length cap) 79∈Δ∧rowP 70 1 (some b35) [8,2,1,4].length c35 (u64s [nA,nB,nC,nD])∈Δ∧T F w0 w' Δ:=fun h=>⟨_,m2,m3,h⟩
  have h23d:=h23.drew
  refine⟨fun w'=>∃Δ,blk k9 (rcC nA (nB:Int) (ptr g) ps.length cap) 79∈Δ∧rowP 70 1 (some b35) [8,2,1,4].length c35 (u64s [nA,nB,nC,nD])∈Δ∧T F w0 w' Δ,hD h23d,_,_,_,_,_,fun w' ⟨Δ,ha,hb,h'⟩=>rd h' ha,?_⟩
  refine(rplaces_spec (seq:=nA) (row:=(nB:Int)) (c:=cap) (T.parts12 h23d List.mem_cons_self) (by omega)).mono fun e w28 ⟨he28,hx28⟩=>⟨_,he28,?_⟩
  have h28:=h23d.quiet hx28
  refine⟨hD h28,not_t fun hp=>bad w28 [_,_,_,_] 1 h28 (by rw[hdec]; exact if_neg fun hq=>of_decide_eq_false hp hq.1),not_f fun hp=>?_⟩
  have hP:=of_decide_eq_true hp
  have eD:IntKind.u32.wrap (nD:Int)=((BitVec.ofNat 32 nD).toNat:Int):=by
   rw[BitVec.toNat_ofNat]; simp[IntKind.wrap,IntKind.bits,IntKind.signed]
  refine⟨_,_,_,_,_,fun w' ⟨Δ,ha,hb,h'⟩=>rd h' ha,⟨b35,0,none⟩,rfl,by omega,by decide,(nD:Int),fun w' ⟨Δ,ha,hb,h'⟩=>by rw[addr_add]; exact cellU 3 nD h' hb rfl,?_⟩
  rw[eD]
  refine(rhead12_spec (seq:=nA) (row:=(nB:Int)) (c:=cap) (sum:=BitVec.ofNat 32 nD) bA hP (T.parts12 h28 List.mem_cons_self)).mono fun e w32 ⟨he32,hx32⟩=>⟨_,he32,?_⟩
  have h32:=h28.quiet hx32
  try dsimp only
  rw[strB_toList,strB_toList]
  refine⟨hD h32,not_t fun hq=>bad w32 [_,_,_,_] 1 h32 (by rw[hdec]; exact if_neg fun hh=>by rw[hh.2]at hq; simp at hq),not_f fun hq=>?_⟩
  have hq:headR nA (nB:Int) ps (BitVec.ofNat 32 nD)=b:=by simpa using hq
  rw[if_pos ⟨hP,hq⟩]at hdec
  have h32d:=h32.drew
  refine⟨fun w'=>∃Δ,blk k9 (rcC nA (nB:Int) (ptr g) ps.length cap) 79∈Δ∧rowP 70 1 (some b35) [8,2,1,4].length c35 (u64s [nA,nB,nC,nD])∈Δ∧T F w0 w' Δ,hD h32d,_,_,_,_,_,fun w' ⟨Δ,ha,hb,h'⟩=>rd h' ha,⟨b35,0,none⟩,rfl,by omega,by decide,(nD:Int),fun w' ⟨Δ,ha,hb,h'⟩=>by rw[addr_add]; exact cellU 3 nD h' hb rfl,?_⟩
  refine St.t (c:=zR) (c':=#[.int .u64 (nA:Int),.int .i64 0,.slice none 0 0]) h32d (.tail (.tail (.tail (.tail .head)))) (show 0<3 by decide) rfl rfl fun w36 h36=>St.t (c':=#[.int .u64 (nA:Int),.int .i64 (nB:Int),.slice none 0 0]) h36 (.tail (.tail (.tail (.tail .head)))) (show 1<3 by decide) rfl rfl fun w37 h37=>St.t (c':=rcC nA (nB:Int) (ptr g) ps.length cap) h37 (.tail (.tail (.tail (.tail .head)))) (show 2<3 by decide) rfl rfl fun w38 h38=>?_
  have h38':=T.dropAt (T.dropAt (T.dropAt h38 (.tail .head)) (.tail .head)) (.tail .head)
  refine⟨⟨_,m2,m3,h38⟩,_,_,_,_,_,⟨h38'.ld (c:=rcC nA (nB:Int) (ptr g) ps.length cap) m2 rfl,h38'.ld (c:=rcC nA (nB:Int) (ptr g) ps.length cap) (i:=1) m2 rfl,h38'.ld (c:=rcC nA (nB:Int) (ptr g) ps.length cap) (i:=2) m2 rfl⟩,g,cap,?_,?_⟩
  ·rw[hdec,eD]; rfl
  ·rw[hdec]; exact T.dropAt h38' (.tail .head)
end
end Go.Proofs.YtkknkmplmilihaaGreat
end
section
namespace Go.Sh
open Go.RowKit
theorem pushN_d {P:Program}{F:List Nat}{w0 w:World}{Γ Δ:List A}{t e:TypeId}{i:TypeInfo}{z:Value}{c:Array Value}{size:Nat}(ht:P.underlying t=some (.slice e)) (hi:P.info? e=some i) (hz:i.zero=some z) (hsize:i.size=size) (hzs:z.cells.size=size) (hby:decide (i.bytes≤1000000)=true)
  {g:Option Nat} {n cap:Nat} {xs:List Value} (hT:T F w0 w Γ) (hk:Pick (rowP e size g n cap xs) Γ Δ) (hc:c.size=size) (hv:∀u∈c.toList,u.oneCell'=true) (hn:n≤1000000) {D:World→Prop} (hD:∀k w',T F w0 w' (blk k c e::Γ)→D w') {K:Option Addr→Nat→Nat→World→Prop} (hK:∀g' cap' w',T F w0 w' (rowP e size g' (n+1) cap' (xs++c.toList)::Δ)→K (ptr g') (n+1) cap' w'):
  Alloc c e w fun k w1=>D w1∧∃(p:Option Addr) (l c:Nat),∃w2,(builtin .append #[t,t] t #[false,false] #[.slice (ptr g) n cap,.slice (some ⟨k,0,none⟩) 1 1]).run P w1=.ok (.value (.slice p l c)) w2∧K p l c w2:=by
 refine Alloc.t hT fun k w1 hT1=>⟨hD k w1 hT1,?_⟩
 have hby':i.bytes≤1000000:=of_decide_eq_true hby
 have hmul:(n+1)*i.bytes≤1000001*1000000:=Nat.mul_le_mul (by omega) hby'
 obtain⟨g',cap',w',hr,hT'⟩:=append_t (ty:=t) #[false,false] ht hi hz hsize hzs hT1 (.tail hk) (a:=⟨k,0,none⟩) (m:=1) (c:=1) (news:=c.toList) (by rw[Array.length_toList,hc,Nat.one_mul]) (fun j u hu=>by
   rw[addr_add,Nat.zero_add]
   exact hT1.ld List.mem_cons_self (by simpa using hu)) hv (by simp only[maxLen]; omega) (by omega)
 refine⟨_,_,_,w',hr,hK _ _ _ ?_⟩
 exact T.drop (T.swap hT' (.swap _ _ _))
end Go.Sh
end
section
namespace Go.Proofs.YtkknkmplmilihaaGreat
open Go.Sh Go.RowKit
section
variable {F:List Nat}{w0 w:World}{Γ:List A}
theorem withD_get {ps:List RP}{L:List (List UInt8)}{i:Nat}(hi:i<ps.length):(withD ps L)[i]?=some { ps[i] with data:=L.getD i [] }:=by
 unfold withD fillN
 rw[List.getElem?_mapIdx,List.getElem?_eq_getElem hi]
 simp only[Option.map_some,if_pos hi]
theorem rdec12_spec (hT:T F w0 w Γ) (b:List UInt8) (hb:b.length≤1000000){L:List (List UInt8)}{gl:Option Nat}{cl:Nat}(hm:rowP 9 1 gl L.length cl (strV L)∈Γ):
  Calls Tp 174 #[.string (strB b),.slice (ptr gl) L.length cl] w fun e w'=>∃g cap,e=.returned (rcV (decR b L) g cap)∧T F w0 w' (rowP 136 3 g (decR b L).1.2.2.length cap (rpL (decR b L).1.2.2)::Γ):=by
 refine(revetmentref12_Decode_calls (R:=fun v w'=>∃g cap,v=rcV (decR b L) g cap∧T F w0 w' (rowP 136 3 g (decR b L).1.2.2.length cap (rpL (decR b L).1.2.2)::Γ)) ?_).mono fun e w' ⟨v,he,g,cap,hv,h⟩=>⟨g,cap,by rw[he,hv],h⟩
 unfold revetmentref12_Decode
 refine Alloc.t hT fun k4 w1 h1=>?_
 have h1:T F w0 w1 (blk k4 zR 79::Γ):=h1
 have bad:∀(w':World) (Δ:List A) (x:Int),T F w0 w' (Δ++blk k4 zR 79::Γ)→decR b L=(zRc,x)→
   St ⟨k4,0,none⟩ (.int .u64 0) w' fun w2=>St ⟨k4,1,none⟩ (.int .i64 0) w2 fun w3=>St ⟨k4,2,none⟩ (.slice none 0 0) w3 fun w4=>∃nr2_0:Int,∃nr2_1:Int,∃(pr2_2:Option Addr) (lr2_2 cr2_2:Nat),(w4.cell? ⟨k4,0,none⟩=some (.int .u64 nr2_0)∧w4.cell? ⟨k4,1,none⟩=some (.int .i64 nr2_1)∧w4.cell? ⟨k4,2,none⟩=some (.slice pr2_2 lr2_2 cr2_2))∧
    ∃g cap,(Value.tuple #[.agg #[.int .u64 nr2_0,.int .i64 nr2_1,.slice pr2_2 lr2_2 cr2_2],.int .i64 x])=rcV (decR b L) g cap∧T F w0 w4 (rowP 136 3 g (decR b L).1.2.2.length cap (rpL (decR b L).1.2.2)::Γ):=by
  intro w' Δ x hT' hd
  have hT':=T.back hT'
  refine St.t (c:=zR) (c':=zR) hT' .head (show 0<3 by decide) rfl rfl fun w2 h2=>St.t (c:=zR) (c':=zR) h2 .head (show 1<3 by decide) rfl rfl fun w3 h3=>St.t (c:=zR) (c':=zR) h3 .head (show 2<3 by decide) rfl rfl fun w4 h4=>?_
  refine⟨_,_,_,_,_,⟨h4.ld (c:=zR) List.mem_cons_self rfl,h4.ld (c:=zR) (i:=1) List.mem_cons_self rfl,h4.ld (c:=zR) (i:=2) List.mem_cons_self rfl⟩,none,0,?_,?_⟩
  ·rw[hd]; rfl
  ·rw[hd]; exact T.nilRow h4.drop _ _
 have h41:=decH_len b
 have hdec:decR b L=if (decH b).2≠0 then (zRc,(decH b).2) else if L.length≠(decH b).1.2.2.1.length then (zRc,31) else if ¬LoadedR (withD (decH b).1.2.2.1 L) then (zRc,31) else if crcSum L.flatten≠(decH b).1.2.2.2 then (zRc,80) else (((decH b).1.1,(decH b).1.2.1,withD (decH b).1.2.2.1 L),0):=rfl
 have hhd:=rhead12_dec h1 b hb
 generalize decH b=d at hhd hdec h41
 obtain⟨⟨seq,row,ps,sum⟩,er⟩:=d
 have h41:ps.length≤41:=h41
 refine hhd.mono fun e w2 ⟨g,cap,he2,h2⟩=>⟨_,_,_,_,_,_,_,he2,?_⟩
 have h2:T F w0 w2 (rowP 136 3 g ps.length cap (rpL ps)::blk k4 zR 79::Γ):=h2
 refine Alloc.t h2 fun k6 w3 h3=>St.t (c:=zR) (c':=#[.int .u64 (seq:Int),.int .i64 0,.slice none 0 0]) h3 .head (show 0<3 by decide) rfl rfl fun w4 h4=>St.t (c':=#[.int .u64 (seq:Int),.int .i64 row,.slice none 0 0]) h4 .head (show 1<3 by decide) rfl rfl fun w5 h5=>St.t (c':=rcC seq row (ptr g) ps.length cap) h5 .head (show 2<3 by decide) rfl rfl fun w6 h6=>?_
 refine⟨bne_t fun hne=>bad w6 [_,_] er h6 (by rw[hdec]; exact if_pos hne),bne_f fun heq=>?_⟩
 have heq:er=0:=heq
 rw[if_neg (by show ¬(er≠0); omega)]at hdec
 have sl:∀{w':World} {Δ:List A},T F w0 w' Δ→blk k6 (rcC seq row (ptr g) ps.length cap) 79∈Δ→w'.cell? ⟨k6,2,none⟩=some (.slice (ptr g) ps.length cap):=fun h hm=>h.ld (c:=rcC seq row (ptr g) ps.length cap) (i:=2) hm rfl
 refine⟨_,_,_,sl h6 List.mem_cons_self,?_⟩
 refine⟨bne_t fun hne=>bad w6 [_,_] 31 h6 (by rw[hdec]; exact if_pos (show L.length≠ps.length by omega)),bne_f fun heql=>?_⟩
 have hll:L.length=ps.length:=by omega
 rw[if_neg (by show ¬(L.length≠ps.length); omega)]at hdec
 have hLo:LoadedR (withD ps L)↔∀s∈L,s.length=64:=by rw[loaded_datas,withD_datas hll]
 refine Alloc.t h6 fun k29 w13 h13=>?_
 have h13:T F w0 w13 (rowP 136 3 (some k29) 0 0 []::blk k6 (rcC seq row (ptr g) ps.length cap) 79::rowP 136 3 g ps.length cap (rpL ps)::blk k4 zR 79::Γ):=blk_rowN h13 rfl
 refine⟨fun vs w'=>∃(i:Nat) (g9:Option Nat) (c9:Nat),vs=[.string (strB (L.take i).flatten),.slice (ptr g9) i c9,.int .i64 (i:Int)]∧i≤L.length∧(∀s∈L.take i,s.length=64)∧T F w0 w' (rowP 136 3 g9 i c9 (rpL ((withD ps L).take i))::blk k6 (rcC seq row (ptr g) ps.length cap) 79::rowP 136 3 g ps.length cap (rpL ps)::blk k4 zR 79::Γ),fun vs _=>match vs with|[_,_,.int _ i]=>(L.length-i).toNat|_=>0,⟨0,some k29,0,rfl,by omega,by simp,h13⟩,?_⟩
 rintro vs w14 ⟨i,g9,c9,rfl,hi,h64,h14⟩
 have hfl:(L.take i).flatten.length=64*i:=by
  have key:∀M:List (List UInt8),(∀s∈M,s.length=64)→M.flatten.length=64*M.length:=by
   intro M hM
   induction M with
   |nil=>rfl
   |cons x M ih=>
    rw[List.flatten_cons,List.length_append,hM x List.mem_cons_self,ih fun s hs=>hM s (List.mem_cons_of_mem _ hs),List.length_cons]; omega
  rw[key _ h64,List.length_take,Nat.min_eq_left hi]
 refine⟨_,_,_,_,_,rfl,dec_t fun hlt=>?_,dec_f fun hge=>?_⟩
 ·have hlt:i<L.length:=by omega
  have hlp:i<ps.length:=by omega
  obtain⟨bl,rfl,hcl⟩:=T.row1 (i:=i) (v:=.string (strB (L.getD i []))) h14 (List.mem_cons_of_mem _ (List.mem_cons_of_mem _ (List.mem_cons_of_mem _ (List.mem_cons_of_mem _ hm)))) (by
   unfold strV; rw[List.getElem?_map,List.getD_eq_getElem?_getD,List.getElem?_eq_getElem hlt]; rfl)
  have hgi:L[i]?=some (L.getD i []):=by rw[List.getD_eq_getElem?_getD,List.getElem?_eq_getElem hlt]; rfl
  have hmi:L.getD i []∈L:=List.mem_of_getElem? hgi
  have htk:L.take (i+1)=L.take i++[L.getD i []]:=by rw[List.take_add_one,hgi]; rfl
  have hwt:(withD ps L).take (i+1)=(withD ps L).take i++[{ ps[i] with data:=L.getD i [] }]:=by rw[List.take_add_one,withD_get hlp]; rfl
  refine⟨_,rfl,by omega,by omega,_,by rw[Int.toNat_natCast]; exact hcl,?_⟩
  rw[strB_size]
  have hcp:∀(w':World) (Δ:List A),T F w0 w' (Δ++(blk k6 (rcC seq row (ptr g) ps.length cap) 79::rowP 136 3 g ps.length cap (rpL ps)::blk k4 zR 79::Γ))→∃a,ptr g=some a∧w'.cell? (a.add (i*3))=some (.int .i64 (ps[i]).col)∧w'.cell? ((a.add (i*3)).add 1)=some (.int .i64 (ps[i]).off):=fun w' Δ h'=>by
   obtain⟨a,ha,q0,q1,_⟩:=(T.parts12 h' (List.mem_append_right _ (List.mem_cons_of_mem _ List.mem_cons_self))).get hlp
   exact⟨a,ha,q0,q1⟩
  have hcl2:∀(w':World) (Δ:List A),T F w0 w' (Δ++(blk k6 (rcC seq row (ptr g) ps.length cap) 79::rowP 136 3 g ps.length cap (rpL ps)::blk k4 zR 79::Γ))→w'.cell? (Addr.add ⟨bl,0,none⟩ (i*1))=some (.string (strB (L.getD i []))):=fun w' Δ h'=>by
   obtain⟨b',hb',hc'⟩:=T.row1 (i:=i) (v:=.string (strB (L.getD i []))) h' (List.mem_append_right _ (List.mem_cons_of_mem _ (List.mem_cons_of_mem _ (List.mem_cons_of_mem _ hm)))) (by
    unfold strV; rw[List.getElem?_map,hgi]; rfl)
   cases hb'; exact hc'
  generalize L.getD i []=s at hcl2 hmi htk hwt
  generalize ps[i]=x at hcp hwt
  refine⟨bne_t fun hne=>bad w14 [_,_,_] 31 h14 (by rw[hdec]; exact if_pos fun hh=>hne (by have:=(hLo.1 hh) s hmi; omega)),bne_f fun hs64=>?_⟩
  refine⟨_,rfl,by omega,by omega,_,by rw[Int.toNat_natCast]; exact hcl2 w14 [_] h14,?_,?_⟩
  ·rw[strB_size,strB_size,hfl]; omega
  obtain⟨ap,hap,_⟩:=hcp w14 [_] h14
  have hcp':∀(w':World) (Δ:List A),T F w0 w' (Δ++(blk k6 (rcC seq row (ptr g) ps.length cap) 79::rowP 136 3 g ps.length cap (rpL ps)::blk k4 zR 79::Γ))→w'.cell? (ap.add (i*3))=some (.int .i64 x.col)∧w'.cell? ((ap.add (i*3)).add 1)=some (.int .i64 x.off):=fun w' Δ h'=>by
   obtain⟨a,ha,hh⟩:=hcp w' Δ h'
   rw[hap]at ha; cases ha; exact hh
  have h14d:=h14.drew
  refine⟨fun w'=>∃Δ,T F w0 w' (Δ++(blk k6 (rcC seq row (ptr g) ps.length cap) 79::rowP 136 3 g ps.length cap (rpL ps)::blk k4 zR 79::Γ)),⟨[_],h14d⟩,_,_,_,fun w' ⟨Δ,h'⟩=>sl h' (List.mem_append_right _ List.mem_cons_self),ap,hap,by omega,by omega,x.col,fun w' ⟨Δ,h'⟩=>by rw[Int.toNat_natCast]; exact(hcp' w' Δ h').1,_,_,_,fun w' ⟨Δ,h'⟩=>sl h' (List.mem_append_right _ List.mem_cons_self),ap,hap,by omega,by omega,x.off,fun w' ⟨Δ,h'⟩=>by rw[Int.toNat_natCast]; exact(hcp' w' Δ h').2,_,rfl,by omega,by omega,strB s,fun w' ⟨Δ,h'⟩=>by rw[Int.toNat_natCast]; exact hcl2 w' Δ h',?_⟩
  refine pushN_d (P:=Tp) (t:=76) (i:=Tryz.t136) (z:=.agg #[.int .i64 0,.int .i64 0,.string (ByteArray.mk #[])]) (c:=rpC { x with data:=s }) (size:=3) (by kernel_rfl) (by kernel_rfl) (by kernel_rfl) (by kernel_rfl) (by kernel_rfl) (by kernel_rfl) h14d .head rfl (fun u hu=>?_) (by omega) (fun k w' h'=>⟨[_,_],h'⟩) fun g' cap' w19 h19=>⟨⟨[_],h19⟩,⟨i+1,g',cap',?_,by omega,fun y hy=>?_,?_⟩,?_⟩
  ·have hu:u∈[Value.int .i64 x.col,.int .i64 x.off,.string (strB s)]:=hu
   simp only[List.mem_cons,List.not_mem_nil,or_false]at hu
   rcases hu with rfl|rfl|rfl<;>rfl
  ·rw[strB_append,htk,List.flatten_append,wrap64 _ (by omega) (by omega)]
   simp
  ·rw[htk]at hy
   rcases List.mem_append.1 hy with hy|hy
   ·exact h64 y hy
   ·rw[List.mem_singleton.1 hy]; omega
  ·rw[hwt,←rpL_snoc']; exact h19
  ·show((L.length:Int)-IntKind.i64.wrap ((i:Int)+1)).toNat<((L.length:Int)-(i:Int)).toNat
   rw[wrap64 _ (by omega) (by omega)]; omega
 ·have hie:i=L.length:=by omega
  subst hie
  rw[List.take_length]at h64 hfl⊢
  rw[if_neg (fun hn=>hn (hLo.2 h64))]at hdec
  have hwl:=withD_len ps L
  rw[List.take_of_length_le (by omega)]at h14
  refine(rsum_spec (strB L.flatten) (by rw[strB_size]; omega) w14).mono fun e w20 ⟨he20,hx20⟩=>⟨_,he20,?_⟩
  have h20:=h14.quiet hx20
  have eL:(strB L.flatten).data.toList=L.flatten:=rfl
  try dsimp only
  try rw[eL]
  refine⟨bne_t fun hne=>bad w20 [_,_,_] 80 h20 (by rw[hdec]; exact if_pos fun hq=>hne (by rw[hq])),bne_f fun hsm=>?_⟩
  have hsm:((crcSum L.flatten).toNat:Int)=(sum.toNat:Int):=hsm
  have hsm:crcSum L.flatten=sum:=BitVec.eq_of_toNat_eq (by omega)
  rw[if_neg (fun hn=>hn hsm)]at hdec
  have hl2:L.length=(withD ps L).length:=by omega
  rw[hl2]at h20⊢
  generalize withD ps L=qs at h20 hdec
  refine St.t (c:=rcC seq row (ptr g) ps.length cap) (c':=rcC seq row (ptr g9) qs.length c9) h20 (.tail .head) (show 2<3 by decide) rfl rfl fun w24 h24=>?_
  have m2:∀{a1 a2:A} {Δ:List A},a2∈a1::a2::Δ:=fun {a1 a2 Δ}=>List.mem_cons_of_mem _ List.mem_cons_self
  refine⟨_,_,_,_,_,⟨h24.ld (b:=k6) (c:=rcC seq row (ptr g9) qs.length c9) m2 rfl,h24.ld (b:=k6) (c:=rcC seq row (ptr g9) qs.length c9) (i:=1) m2 rfl,h24.ld (b:=k6) (c:=rcC seq row (ptr g9) qs.length c9) (i:=2) m2 rfl⟩,?_⟩
  have h24':=T.dropAt (T.dropAt h24 (.tail .head)) (.tail .head)
  refine St.t (c:=zR) (c':=#[.int .u64 (seq:Int),.int .i64 0,.slice none 0 0]) h24' (.tail .head) (show 0<3 by decide) rfl rfl fun w25 h25=>St.t (c':=#[.int .u64 (seq:Int),.int .i64 row,.slice none 0 0]) h25 (.tail .head) (show 1<3 by decide) rfl rfl fun w26 h26=>St.t (c':=rcC seq row (ptr g9) qs.length c9) h26 (.tail .head) (show 2<3 by decide) rfl rfl fun w27 h27=>?_
  refine⟨_,_,_,_,_,⟨h27.ld (c:=rcC seq row (ptr g9) qs.length c9) m2 rfl,h27.ld (c:=rcC seq row (ptr g9) qs.length c9) (i:=1) m2 rfl,h27.ld (c:=rcC seq row (ptr g9) qs.length c9) (i:=2) m2 rfl⟩,g9,c9,?_,?_⟩
  ·rw[hdec]; rfl
  ·rw[hdec]; exact T.dropAt h27 (.tail .head)
end
def updF (f:Nat→ByteArray) (i:Nat) (s:ByteArray):Nat→ByteArray:=fun j=>if j=i then s else f j
structure AD.Wet (a:AD) (n:Nat) (f:Nat→ByteArray):Prop where
 on:a.On n
 sp:∀j,a.spoilt j=false
 top:∀j,j<n→a.top j=f j
theorem AD.Hold.wet {a:AD}{n:Nat}{f:Nat→ByteArray}(h:a.Hold n f):a.Wet n f:=⟨h.on,h.sp,fun j hj=>by rw[AD.top_none (h.pend j),h.safe j hj]⟩
theorem AD.Wet.put {a:AD}{n:Nat}{f:Nat→ByteArray}(h:a.Wet n f){i:Int}(h0:0≤i) (hi:i<(n:Int)){s:ByteArray}(hs:s.size=64):a.put i s=0:=h.on.put ⟨h0,hi⟩ hs
theorem AD.Wet.write {a:AD}{n:Nat}{f:Nat→ByteArray}(h:a.Wet n f){i:Int}(h0:0≤i) (hi:i<(n:Int)){s:ByteArray}(hs:s.size=64):(a.write i s).Wet n (updF f i.toNat s):=by
 have hp:=h.put h0 hi hs
 refine⟨h.on.write i s,fun j=>?_,fun j hj=>?_⟩
 ·rw[AD.write_of hp]
  show(if j=i.toNat then false else a.spoilt j)=false
  rw[h.sp]; split<;>rfl
 ·rw[AD.write_top hp]
  unfold updF
  split
  ·rfl
  ·exact h.top j hj
theorem AD.Wet.flush {a:AD}{n:Nat}{f:Nat→ByteArray}(h:a.Wet n f):a.flush.Hold n f:=by
 have hf:=h.on.flush1
 refine⟨h.on.flush,fun j=>?_,fun j=>?_,fun j hj=>?_⟩
 ·rw[AD.flush_of hf]; rfl
 ·rw[AD.flush_of hf]; exact h.sp j
 ·rw[(AD.flush_safe hf (j:=j) (by rw[h.on.len]; exact hj)).1]; exact h.top j hj
theorem AD.Wet.read {a:AD}{n:Nat}{f:Nat→ByteArray}(h:a.Wet n f){i:Int}(h0:0≤i) (hi:i<(n:Int)):a.read i=(f i.toNat,0):=by
 rw[read_on h.on ⟨h0,hi⟩,if_neg (by rw[h.sp]; decide),h.top _ (by omega)]
def opsF:(Nat→ByteArray)→List Op→Nat→ByteArray
 |f,[]=>f
 |f,some x::l=>opsF (updF f x.1.toNat x.2) l
 |f,none::l=>opsF f l
theorem opsF_app:∀(l m:List Op) (f:Nat→ByteArray),opsF f (l++m)=opsF (opsF f l) m
 |[],m,f=>rfl
 |some x::l,m,f=>opsF_app l m _
 |none::l,m,f=>opsF_app l m _
def OpsOk (n:Nat) (l:List Op):Prop:=∀y,some y∈l→0≤y.1∧y.1<(n:Int)∧y.2.size=64
theorem runS_wet {n:Nat}:∀(l:List Op){a:AD}{f:Nat→ByteArray},a.Wet n f→OpsOk n l→(runS a l).2=0∧(runS a l).1.Wet n (opsF f l)
 |[],a,f,h,_=>⟨rfl,h⟩
 |some x::l,a,f,h,ho=>by
  obtain⟨h0,h1,h2⟩:=ho x List.mem_cons_self
  have hp:=h.put h0 h1 h2
  have e:runS a (some x::l)=runS (a.write x.1 x.2) l:=if_neg (fun hn=>hn hp)
  rw[e]
  exact runS_wet l (h.write h0 h1 h2) fun y hy=>ho y (List.mem_cons_of_mem _ hy)
 |none::l,a,f,h,ho=>by
  have e:runS a (none::l)=runS a.flush l:=if_neg (fun hn=>hn h.on.flush1)
  rw[e]
  exact runS_wet l h.flush.wet fun y hy=>ho y (List.mem_cons_of_mem _ hy)
theorem runS_app:∀(l m:List Op){a:AD},(runS a l).2=0→runS a (l++m)=runS (runS a l).1 m
 |[],m,a,_=>rfl
 |some x::l,m,a,h=>by
  by_cases hp:a.put x.1 x.2=0
  ·have e:∀k,runS a (some x::k)=runS (a.write x.1 x.2) k:=fun k=>if_neg (fun hn=>hn hp)
   rw[List.cons_append,e,e]
   rw[e]at h
   exact runS_app l m h
  ·have e:∀k,runS a (some x::k)=(a.write x.1 x.2,a.put x.1 x.2):=fun k=>if_pos hp
   rw[e]at h; exact absurd h hp
 |none::l,m,a,h=>by
  by_cases hp:a.flush1=0
  ·have e:∀k,runS a (none::k)=runS a.flush k:=fun k=>if_neg (fun hn=>hn hp)
   rw[List.cons_append,e,e]
   rw[e]at h
   exact runS_app l m h
  ·have e:∀k,runS a (none::k)=(a.flush,a.flush1):=fun k=>if_pos hp
   rw[e]at h; exact absurd h hp
theorem runS_hold {n:Nat}{l:List Op}{a:AD}{f:Nat→ByteArray}(h:a.Wet n f) (ho:OpsOk n l):(runS a (l++[none])).2=0∧(runS a (l++[none])).1.Hold n (opsF f l):=by
 obtain⟨h1,h2⟩:=runS_wet l h ho
 rw[runS_app l [none] h1]
 have e:runS (runS a l).1 [none]=((runS a l).1.flush,0):=if_neg (fun hn=>hn h2.on.flush1)
 rw[e]; exact⟨rfl,h2.flush⟩
def slotF (f:Nat→ByteArray) (n:Nat):Nat→ByteArray:=fun j=>if 4≤j∧(j-4)%41=0∧(j-4) / 41<n then zS else f j
theorem slotOps_f (f:Nat→ByteArray):∀n,opsF f (slotOps n)=slotF f n
 |0=>by funext j; unfold slotF; rw[if_neg (by omega)]; rfl
 |n+1=>by
  rw[slotOps_next,opsF_app,slotOps_f f n]
  show updF (slotF f n) (4+41*(n:Int)).toNat zS=_
  funext j
  unfold updF slotF
  by_cases h:j=(4+41*(n:Int)).toNat
  ·rw[if_pos h,if_pos (by omega)]
  ·rw[if_neg h]
   by_cases h2:4≤j∧(j-4)%41=0∧(j-4) / 41<n
   ·rw[if_pos h2,if_pos (by omega)]
   ·rw[if_neg h2,if_neg (by omega)]
theorem slotOps_ok {n N:Nat}(h:4+41*n≤N):OpsOk N (slotOps n):=by
 intro y hy
 obtain⟨i,hi,e⟩:=List.mem_map.1 hy
 cases e
 have:=List.mem_range.1 hi
 exact⟨by omega,by show 4+41*(i:Int)<N; omega,rfl⟩
def loadF (f:Nat→ByteArray) (at_:Nat) (L:List (List UInt8)) (k:Nat):Nat→ByteArray:=fun j=>if at_+1≤j∧j<at_+1+k then strB (L.getD (j-at_-1) []) else f j
theorem loadOps_f (f:Nat→ByteArray) (at_:Nat) (L:List (List UInt8)):∀k,opsF f (loadOps (at_:Int) L k)=loadF f at_ L k
 |0=>by funext j; unfold loadF; rw[if_neg (by omega)]; rfl
 |k+1=>by
  show opsF f (loadOps (at_:Int) L k++[_])=_
  rw[opsF_app,loadOps_f f at_ L k]
  show updF (loadF f at_ L k) ((at_:Int)+1+(k:Int)).toNat (strB (L.getD k []))=_
  funext j
  unfold updF loadF
  by_cases h:j=((at_:Int)+1+(k:Int)).toNat
  ·rw[if_pos h,if_pos (by omega),show j-at_-1=k by omega]
  ·rw[if_neg h]
   by_cases h2:at_+1≤j∧j<at_+1+k
   ·rw[if_pos h2,if_pos (by omega)]
   ·rw[if_neg h2,if_neg (by omega)]
theorem loadOps_ok {at_ N:Nat}{L:List (List UInt8)}(hL:∀s∈L,s.length=64):∀{k:Nat},k≤L.length→at_+1+k≤N→OpsOk N (loadOps (at_:Int) L k)
 |0,_,_=>fun y hy=>by simp[loadOps]at hy
 |k+1,hk,hN=>fun y hy=>by
  have hy:some y∈loadOps (at_:Int) L k++[some ((at_:Int)+1+(k:Int),strB (L.getD k []))]:=hy
  rcases List.mem_append.1 hy with hy|hy
  ·exact loadOps_ok hL (by omega) (by omega) y hy
  ·have e:=Option.some.inj (List.mem_singleton.1 hy)
   subst e
   refine⟨by show 0≤(at_:Int)+1+(k:Int); omega,by show(at_:Int)+1+(k:Int)<N; omega,?_⟩
   rw[strB_size,List.getD_eq_getElem?_getD,List.getElem?_eq_getElem (show k<L.length by omega)]
   exact hL _ (List.getElem_mem _)
theorem zS_eq:zeroSec=zS:=by
 unfold zeroSec zS strB
 rw[List.toArray_replicate]
theorem slots13_spec (n:Int) (h0:-9223372036854775804≤n) (h1:n≤9223372036854775807) (w:World):Ret Tp 94 #[.int .i64 n] w (.int .i64 (slotsN n)):=by
 refine ret_of (revetmentref13_Slots_calls ?_)
 unfold revetmentref13_Slots
 refine⟨dec_t fun h=>⟨?_,Ext.refl w⟩,dec_f fun h=>⟨?_,Ext.refl w⟩⟩
 ·have:slotsN n=0:=by unfold slotsN; omega
  rw[this]
 ·rw[wrap64 (n-4) (by omega) (by omega),Int.tdiv_eq_ediv_of_nonneg (by omega),wrap64 _ (by omega) (by omega)]
  have:slotsN n=(n-4) / 41:=by unfold slotsN; omega
  rw[this]
theorem mark13_spec {n:Nat}(hn:n<2 ^ 64) (w:World):Ret Tp 95 #[.int .u64 (n:Int)] w (.string (strB (markB n))):=by
 refine ret_of (revetmentref13_Mark_calls ?_)
 unfold revetmentref13_Mark
 refine Alloc.t (T.nil w) fun k9 w1 h1=>?_
 have h1:T [] w w1 [rowP 70 1 (some k9) 1 1 (u64s [n])]:=blk_row h1 rfl rfl (by decide)
 refine Alloc.t h1 fun k10 w2 h2=>?_
 have h2:T [] w w2 (rowP 3 1 (some k10) 1 1 (intsN [8])::[rowP 70 1 (some k9) 1 1 (u64s [n])]):=blk_row h2 rfl rfl (by decide)
 have hf:∀(i m x:Nat),[n][i]?=some m→[8][i]?=some x→m<256 ^ x:=fun i m x hm hx=>by
  match i,hm,hx with
  |0,hm,hx=>
   cases hm; cases hx
   have e:(256:Nat) ^ 8=2 ^ 64:=by decide
   omega
  |i+1,hm,_=>simp at hm
 refine(rencode_spec (ns:=[n]) (ws:=[8]) rwid8 rfl hf h2 (g1:=some k9) (g2:=some k10) (n1:=1) (n2:=1) (c1:=1) (c2:=1) rfl rfl (List.mem_cons_of_mem _ List.mem_cons_self) List.mem_cons_self).mono fun e w3 ⟨he3,h3⟩=>⟨_,_,he3,?_⟩
 try dsimp only
 rw[show encP [n] [8]=leB n 8 by simp[encP]]
 have eM:(ByteArray.mk #[82,86,84,77])=strB magM:=rfl
 have l8:=leB_len n 8
 have hl:(magM++leB n 8).length=12:=by rw[List.length_append,l8]; rfl
 rw[eM,strB_append]
 refine⟨by rw[strB_size,strB_size,l8]; decide,?_⟩
 exact(rseal_spec (strB (magM++leB n 8)) 64 (by rw[strB_size,hl]; omega) (by omega) w3).mono fun e w5 ⟨he5,hx5⟩=>⟨_,_,he5,rfl,h3.chg.ext.trans hx5⟩
def krC (p t n:Nat):Array Value:=#[.pointer (some ⟨p,0,none⟩),.int .u64 (t:Int),.int .u64 (n:Int)]
theorem write_len (a:AD) (i:Int) (s:ByteArray):(a.write i s).safe.length=a.safe.length:=by unfold AD.write; split<;>rfl
section
variable {p r t n:Nat}{a:AD}{F:List Nat}{w0 w:World}{X:List A}
theorem Rf.len (h:Rf p a F w0 w X):∃g c,w.cell? ⟨p,0,none⟩=some (.slice g a.safe.length c):=by
 obtain⟨R,rfl,hA,hT⟩:=h
 exact⟨ptr R.gs,R.cs,by rw[←hA.safe]; exact hT.ld (b:=R.p) (List.mem_append_left _ (List.mem_append_left _ List.mem_cons_self)) rfl⟩
theorem Rf.len64 (h:Rf p a F w0 w X):a.safe.length≤4096:=by
 obtain⟨R,rfl,hA,hT⟩:=h
 exact hA.n1
theorem first13_spec (h:Rf p a F w0 w X) (h1:1≤(slotsN (a.safe.length:Int)).toNat) (m:Nat):Ret Tp 172 #[.pointer (some ⟨p,0,none⟩),.int .u64 (m:Int)] w (.int .i64 (ratF (slotsN (a.safe.length:Int)).toNat m)):=by
 refine ret_of (revetmentref13_first_calls ?_)
 unfold revetmentref13_first
 have h64:=h.len64
 obtain⟨g,c,hc⟩:=h.len
 obtain⟨S,hS⟩:∃S:Nat,slotsN (a.safe.length:Int)=(S:Int):=⟨(slotsN (a.safe.length:Int)).toNat,by unfold slotsN; omega⟩
 have hS99:S≤99:=by unfold slotsN at hS; omega
 rw[hS,Int.toNat_natCast]at h1⊢
 refine⟨_,rfl,_,_,_,hc,?_⟩
 refine(slots13_spec (a.safe.length:Int) (by omega) (by omega) w).mono fun e w1 ⟨he1,hx1⟩=>⟨_,he1,?_⟩
 try dsimp only
 rw[hS]
 have e0:IntKind.u64.wrap (S:Int)=(S:Int):=by rw[wrapU64]; omega
 rw[e0]
 refine⟨by omega,?_,hx1⟩
 unfold ratF
 have hlt:m%S<S:=Nat.mod_lt _ (by omega)
 rw[Int.tmod_eq_emod_of_nonneg (by omega),←Int.natCast_emod]
 generalize m%S=j at hlt
 rw[wrap64 (j:Int) (by omega) (by omega),wrap64 (41*(j:Int)) (by omega) (by omega),wrap64 _ (by omega) (by omega)]
theorem format13_spec (h:Rf p a F w0 w X){N:Nat}(hF:a.Few N) (hN:N+200≤999999):
  Calls Tp 41 #[.pointer (some ⟨p,0,none⟩)] w fun e w'=>e=.returned (.int .i64 (formatF a).2)∧Rf p (formatF a).1 F w0 w' X:=by
 refine rq (revetmentref13_Format_calls ?_)
 unfold revetmentref13_Format
 have h64:=h.len64
 obtain⟨g,c,hc⟩:=h.len
 obtain⟨S,hS⟩:∃S:Nat,slotsN (a.safe.length:Int)=(S:Int):=⟨(slotsN (a.safe.length:Int)).toNat,by unfold slotsN; omega⟩
 have hS99:S≤99:=by unfold slotsN at hS; omega
 have hf:formatF a=if (S:Int)=0 then (a,1) else runS a (fmtOps S):=by unfold formatF; rw[hS]; rfl
 rw[hf]
 refine⟨_,rfl,_,_,_,hc,?_⟩
 refine(slots13_spec (a.safe.length:Int) (by omega) (by omega) w).mono fun e w1 ⟨he1,hx1⟩=>⟨_,he1,?_⟩
 try dsimp only
 rw[hS]
 refine⟨beq_t fun h0=>by rw[if_pos h0]; exact⟨rfl,h.quiet hx1⟩,beq_f fun hne=>?_⟩
 rw[if_neg hne]
 refine⟨fun vs w'=>∃(i:Nat) (a':AD),vs=[.int .i64 (i:Int)]∧i≤S∧a'.safe.length=a.safe.length∧a'.Few (N+i)∧Rf p a' F w0 w' X∧runS a (fmtOps S)=runS a' ((slotOps S).drop i++[some (3,strB (markB 0)),none]),fun vs _=>match vs with|[.int _ i]=>(S-i).toNat|_=>0,⟨0,a,rfl,by omega,rfl,hF,h.quiet hx1,rfl⟩,?_⟩
 rintro vs w2 ⟨i,a',rfl,hi,hlen,hF',h2,hr⟩
 obtain⟨g2,c2,hc2⟩:=h2.len
 rw[hlen]at hc2
 refine⟨_,rfl,_,rfl,_,_,_,hc2,?_⟩
 refine(slots13_spec (a.safe.length:Int) (by omega) (by omega) w2).mono fun e w3 ⟨he3,hx3⟩=>⟨_,he3,?_⟩
 have h3:=h2.quiet hx3
 try dsimp only
 rw[hS]
 refine⟨dec_t fun hlt=>?_,dec_f fun hge=>?_⟩
 ·have hlt:i<S:=by omega
  have hops:(slotOps S).drop i=some (4+41*(i:Int),zS)::(slotOps S).drop (i+1):=by
   have hl:i<(slotOps S).length:=by unfold slotOps; rw[List.length_map,List.length_range]; exact hlt
   have hg:(slotOps S)[i]?=some (some (4+41*(i:Int),zS)):=by
    unfold slotOps; rw[List.getElem?_map,List.getElem?_range hlt]; rfl
   rw[List.drop_eq_getElem_cons hl,(List.getElem?_eq_some_iff.1 hg).2]
  rw[hops,List.cons_append]at hr
  refine(blank_spec w3).mono fun e w4 ⟨he4,hx4⟩=>⟨_,he4,?_⟩
  have e41:IntKind.i64.wrap (4+IntKind.i64.wrap (41*(i:Int)))=4+41*(i:Int):=by
   rw[wrap64 (41*(i:Int)) (by omega) (by omega),wrap64 _ (by omega) (by omega)]
  rw[e41,zS_eq]
  refine(rwrite_r (h3.quiet hx4) (hF'.mono (by omega)) (4+41*(i:Int)) zS).mono fun e w5 ⟨he5,h5⟩=>⟨_,he5,bne_t fun hn=>?_,bne_f fun hz=>?_⟩
  ·rw[hr]
   have:runS a' (some (4+41*(i:Int),zS)::((slotOps S).drop (i+1)++[some (3,strB (markB 0)),none]))=(a'.write (4+41*(i:Int)) zS,a'.put (4+41*(i:Int)) zS):=if_pos hn
   rw[this]; exact⟨rfl,h5⟩
  ·have:runS a' (some (4+41*(i:Int),zS)::((slotOps S).drop (i+1)++[some (3,strB (markB 0)),none]))=runS (a'.write (4+41*(i:Int)) zS) ((slotOps S).drop (i+1)++[some (3,strB (markB 0)),none]):=if_neg (fun hh=>hh hz)
   rw[this]at hr
   refine⟨⟨i+1,_,?_,by omega,by rw[write_len]; exact hlen,(hF'.write _ _).mono (by omega),h5,hr⟩,?_⟩
   ·rw[wrap64 _ (by omega) (by omega)]; rfl
   ·show((S:Int)-IntKind.i64.wrap ((i:Int)+1)).toNat<((S:Int)-(i:Int)).toNat
    rw[wrap64 _ (by omega) (by omega)]; omega
 ·have hie:i=S:=by omega
  subst hie
  have hd:(slotOps i).drop i=[]:=List.drop_eq_nil_of_le (by unfold slotOps; rw[List.length_map,List.length_range]; exact Nat.le_refl _)
  rw[hd,List.nil_append]at hr
  rw[hr]
  refine(mark13_spec (n:=0) (by decide) w3).mono fun e w6 ⟨he6,hx6⟩=>⟨_,he6,?_⟩
  refine(rwrite_r (h3.quiet hx6) (hF'.mono (by omega)) 3 (strB (markB 0))).mono fun e w7 ⟨he7,h7⟩=>⟨_,he7,bne_t fun hn=>?_,bne_f fun hz=>?_⟩
  ·have:runS a' [some (3,strB (markB 0)),none]=(a'.write 3 (strB (markB 0)),a'.put 3 (strB (markB 0))):=if_pos hn
   rw[this]; exact⟨rfl,h7⟩
  ·have:runS a' [some (3,strB (markB 0)),none]=runS (a'.write 3 (strB (markB 0))) [none]:=if_neg (fun hh=>hh hz)
   rw[this]
   refine(rflush_r h7 ((hF'.write _ _).mono (by omega))).mono fun e w8 ⟨he8,h8⟩=>⟨_,he8,?_,?_⟩
   ·congr 1
    show _=(if _ then _ else _:AD×Int).2
    split
    ·rfl
    ·rename_i hq; show _=(0:Int); omega
   ·have:(runS (a'.write 3 (strB (markB 0))) [none]).1=(a'.write 3 (strB (markB 0))).flush:=by
     show(if _ then _ else _:AD×Int).1=_
     split<;>rfl
    rw[this]; exact h8
theorem Rf.intoT {K:Prop}(h:Rf p a F w0 w X) (hK:∀Γ,T F w0 w (X++Γ)→(∀w' Y,T F w0 w' (Y++(X++Γ))→Rf p a F w0 w' (Y++X))→K):K:=by
 obtain⟨R,hR,hA,hT⟩:=h
 refine hK (refL R) (hT.swap List.perm_append_comm) fun w' Y h'=>⟨R,hR,hA,h'.swap ?_⟩
 rw[←List.append_assoc]
 exact List.perm_append_comm
end
section
variable {p r t n:Nat}{a:AD}{F:List Nat}{w0 w:World}{X:List A}
theorem Rf.into {y:A}{K:Prop}(h:Rf p a F w0 w (y::X)) (hK:∀Γ,T F w0 w (y::Γ)→(∀w' Y,T F w0 w' (Y++Γ)→Rf p a F w0 w' (Y++X))→K):K:=by
 obtain⟨R,hR,hA,hT⟩:=h
 refine hK (refL R++X) (hT.swap List.perm_middle) fun w' Y h'=>⟨R,hR,hA,h'.swap ?_⟩
 rw[←List.append_assoc,←List.append_assoc]
 exact List.perm_append_comm.append_right X
theorem Rf.push1 {t e:TypeId}{i:TypeInfo}{z v:Value}(ht:Tp.underlying t=some (.slice e)) (hi:Tp.info? e=some i) (hz:i.zero=some z) (hsize:i.size=1) (hzs:z.cells.size=1) (hby:decide (i.bytes≤1000000)=true)
  {g:Option Nat} {n cap:Nat} {xs:List Value} {X:List A} (h:Rf p a F w0 w (rowP e 1 g n cap xs::X)) (hv:v.oneCell'=true) (hn:n≤1000000) {K:Option Addr→Nat→Nat→World→Prop} (hK:∀g' cap' w',Rf p a F w0 w' (rowP e 1 g' (n+1) cap' (xs++[v])::X)→K (ptr g') (n+1) cap' w'):
  Alloc #[v] e w fun k w1=>∃(p:Option Addr) (l c:Nat),∃w2,(builtin .append #[t,t] t #[false,false] #[.slice (ptr g) n cap,.slice (some ⟨k,0,none⟩) 1 1]).run Tp w1=.ok (.value (.slice p l c)) w2∧K p l c w2:=
 Rf.into h fun Γ hT hback=>push1_t ht hi hz hsize hzs hby hT .head hv hn fun g' cap' w' hT'=>hK g' cap' w' (hback w' [_] hT')
theorem Rf.pushN {t e:TypeId}{i:TypeInfo}{z:Value}{c:Array Value}{size:Nat}(ht:Tp.underlying t=some (.slice e)) (hi:Tp.info? e=some i) (hz:i.zero=some z) (hsize:i.size=size) (hzs:z.cells.size=size) (hby:decide (i.bytes≤1000000)=true)
  {g:Option Nat} {n cap:Nat} {xs:List Value} {X:List A} (h:Rf p a F w0 w (rowP e size g n cap xs::X)) (hc:c.size=size) (hv:∀u∈c.toList,u.oneCell'=true) (hn:n≤1000000) {K:Option Addr→Nat→Nat→World→Prop} (hK:∀g' cap' w',Rf p a F w0 w' (rowP e size g' (n+1) cap' (xs++c.toList)::X)→K (ptr g') (n+1) cap' w'):
  Alloc c e w fun k w1=>∃(p:Option Addr) (l c:Nat),∃w2,(builtin .append #[t,t] t #[false,false] #[.slice (ptr g) n cap,.slice (some ⟨k,0,none⟩) 1 1]).run Tp w1=.ok (.value (.slice p l c)) w2∧K p l c w2:=
 Rf.into h fun Γ hT hback=>pushN_t ht hi hz hsize hzs hby hT .head hc hv hn fun g' cap' w' hT'=>hK g' cap' w' (hback w' [_] hT')
theorem Rf.nilRow (h:Rf p a F w0 w X) (e:TypeId) (size:Nat):Rf p a F w0 w (rowP e size none 0 0 []::X):=
 Rf.intoT h fun Γ hT hback=>hback w [_] (T.nilRow hT _ _)
theorem Rf.rowN {k:Nat}{e:TypeId}{c:Array Value}{size:Nat}(h:Rf p a F w0 w (blk k c e::X)) (hc:c=#[]):Rf p a F w0 w (rowP e size (some k) 0 0 []::X):=
 Rf.into h fun Γ hT hback=>hback w [_] (blk_rowN hT hc)
theorem Rf.blkRow {k m:Nat}{e:TypeId}{c:Array Value}{xs:List Value}(h:Rf p a F w0 w (blk k c e::X)) (hc:c.toList=xs) (hn:c.size=m) (hm:m≤1000000000):Rf p a F w0 w (rowP e 1 (some k) m m xs::X):=
 Rf.into h fun Γ hT hback=>hback w [_] (blk_row hT hc hn hm)
theorem Rf.back:∀{Y:List A},Rf p a F w0 w (Y++X)→Rf p a F w0 w X
 |[],h=>h
 |y::Y,h=>Rf.back (Y:=Y) (Rf.dropX h)
theorem read13_spec (h:Rf p a F w0 w X) (hF:a.Few 1000000) (hsz:∀i,(a.read i).1.data.toList.length≤1000000) (h1:1≤(slotsN (a.safe.length:Int)).toNat){m:Nat}(hm64:m<2 ^ 64):
  Calls Tp 100 #[.pointer (some ⟨p,0,none⟩),.int .u64 (m:Int)] w fun e w'=>∃g cap,e=.returned (rxV (recF a (slotsN (a.safe.length:Int)).toNat m) g cap)∧Rf p a F w0 w' (rowP 136 3 g (recF a (slotsN (a.safe.length:Int)).toNat m).1.2.2.length cap (rpL (recF a (slotsN (a.safe.length:Int)).toNat m).1.2.2)::X):=by
 obtain⟨S,hS⟩:∃S:Nat,(slotsN (a.safe.length:Int)).toNat=S:=⟨_,rfl⟩
 have hS99:S≤99:=by have:=h.len64; unfold slotsN at hS; omega
 have hfs:=fun(w':World) (X':List A) (h':Rf p a F w0 w' X')=>first13_spec h' h1 m
 rw[hS]at hfs h1⊢
 refine(revetmentref13_read_calls (R:=fun v w'=>∃g cap,v=rxV (recF a S m) g cap∧Rf p a F w0 w' (rowP 136 3 g (recF a S m).1.2.2.length cap (rpL (recF a S m).1.2.2)::X)) ?_).mono fun e w' ⟨v,he,g,cap,hv,h⟩=>⟨g,cap,by rw[he,hv],h⟩
 unfold revetmentref13_read
 refine Rf.alloc h fun k4 w1 h1'=>?_
 have h1':Rf p a F w0 w1 (blk k4 zR 79::X):=h1'
 have bad:∀(w':World) (Δ:List A),Rf p a F w0 w' (Δ++blk k4 zR 79::X)→recF a S m=(zRc,false)→
   St ⟨k4,0,none⟩ (.int .u64 0) w' fun w2=>St ⟨k4,1,none⟩ (.int .i64 0) w2 fun w3=>St ⟨k4,2,none⟩ (.slice none 0 0) w3 fun w4=>∃nr2_0:Int,∃nr2_1:Int,∃(pr2_2:Option Addr) (lr2_2 cr2_2:Nat),(w4.cell? ⟨k4,0,none⟩=some (.int .u64 nr2_0)∧w4.cell? ⟨k4,1,none⟩=some (.int .i64 nr2_1)∧w4.cell? ⟨k4,2,none⟩=some (.slice pr2_2 lr2_2 cr2_2))∧
    ∃g cap,(Value.tuple #[.agg #[.int .u64 nr2_0,.int .i64 nr2_1,.slice pr2_2 lr2_2 cr2_2],.bool false])=rxV (recF a S m) g cap∧Rf p a F w0 w4 (rowP 136 3 g (recF a S m).1.2.2.length cap (rpL (recF a S m).1.2.2)::X):=by
  intro w' Δ hT' hd
  have hT':=Rf.back hT'
  refine Rf.st1 (c':=zR) hT' (show 0<3 by decide) rfl rfl fun w2 h2=>Rf.st1 (c':=zR) h2 (show 1<3 by decide) rfl rfl fun w3 h3=>Rf.st1 (c':=zR) h3 (show 2<3 by decide) rfl rfl fun w4 h4=>?_
  refine⟨_,_,_,_,_,⟨h4.under.ld (c:=zR) List.mem_cons_self rfl,h4.under.ld (c:=zR) (i:=1) List.mem_cons_self rfl,h4.under.ld (c:=zR) (i:=2) List.mem_cons_self rfl⟩,none,0,?_,?_⟩
  ·rw[hd]; rfl
  ·rw[hd]; exact Rf.nilRow h4.dropX _ _
 refine(hfs w1 _ h1').mono fun e w2 ⟨he2,hx2⟩=>⟨_,he2,?_⟩
 have hd2:=h1'.quiet hx2
 obtain⟨at_,hat,hat0,hat1⟩:∃x:Int,ratF S m=x∧0≤x∧x≤50000000:=⟨_,rfl,by unfold ratF; omega,by have:m%S<S:=Nat.mod_lt _ (by omega); unfold ratF; omega⟩
 try dsimp only
 rw[hat]
 refine(rread_r hd2 hF at_).mono fun e w3 ⟨he3,hx3⟩=>⟨_,_,he3,?_⟩
 have hd3:=hd2.quiet hx3
 have hsz1:=hsz at_
 have hrec:recF a S m=if (a.read at_).2≠0 then (zRc,false)
   else if (decH (a.read at_).1.data.toList).2≠0∨(decH (a.read at_).1.data.toList).1.1≠m then (zRc,false)
   else if ∃i,i<(decH (a.read at_).1.data.toList).1.2.2.1.length∧(a.read (at_+1+(i:Int))).2≠0 then (zRc,false)
   else ((decR (a.read at_).1.data.toList (readsF a at_ (decH (a.read at_).1.data.toList).1.2.2.1.length)).1,decide ((decR (a.read at_).1.data.toList (readsF a at_ (decH (a.read at_).1.data.toList).1.2.2.1.length)).2=0)):=by
  unfold recF; rw[hat]
 rw[←strB_data (a.read at_).1]
 generalize (a.read at_).1.data.toList=b at hrec hsz1
 generalize (a.read at_).2=er at hrec
 refine⟨bne_t fun hne=>bad w3 [] hd3 (by rw[hrec]; exact if_pos hne),bne_f fun heq=>?_⟩
 rw[if_neg (fun hn=>hn heq)]at hrec
 refine Rf.intoT hd3 fun Γ hT hback=>?_
 have h41:=decH_len b
 have hhd:=rhead12_dec hT b hsz1
 generalize decH b=d at hhd hrec h41
 obtain⟨⟨seq,row,ps,sum⟩,e2⟩:=d
 have h41:ps.length≤41:=h41
 have hrec:recF a S m=if e2≠0∨seq≠m then (zRc,false) else if ∃i,i<ps.length∧(a.read (at_+1+(i:Int))).2≠0 then (zRc,false) else ((decR b (readsF a at_ ps.length)).1,decide ((decR b (readsF a at_ ps.length)).2=0)):=hrec
 refine hhd.mono fun e w7 ⟨g,cap,he7,hT7⟩=>⟨_,_,_,_,_,_,_,he7,?_⟩
 have h7:Rf p a F w0 w7 (rowP 136 3 g ps.length cap (rpL ps)::blk k4 zR 79::X):=hback w7 [_] hT7
 refine Rf.alloc h7 fun k9 w8 h8=>Rf.st1 (c:=zR) (c':=#[.int .u64 (seq:Int),.int .i64 0,.slice none 0 0]) h8 (show 0<3 by decide) rfl rfl fun w9 h9=>Rf.st1 (c':=#[.int .u64 (seq:Int),.int .i64 row,.slice none 0 0]) h9 (show 1<3 by decide) rfl rfl fun w10 h10=>Rf.st1 (c':=rcC seq row (ptr g) ps.length cap) h10 (show 2<3 by decide) rfl rfl fun w11 h11=>?_
 refine⟨bne_t fun hne=>bad w11 [_,_] h11 (by rw[hrec]; exact if_pos (Or.inl hne)),bne_f fun heq2=>?_⟩
 refine⟨_,h11.under.ld (c:=rcC seq row (ptr g) ps.length cap) List.mem_cons_self rfl,?_⟩
 refine⟨bne_t fun hne=>bad w11 [_,_] h11 (by rw[hrec]; exact if_pos (Or.inr (by omega))),bne_f fun heq3=>?_⟩
 have heq3:seq=m:=by omega
 have heq2:e2=0:=heq2
 rw[if_neg (by omega)]at hrec
 refine Rf.alloc h11 fun k45 w18 h18=>?_
 have h18:=Rf.rowN (size:=1) h18 rfl
 have m2:∀{a1 a2:A} {L:List A},a2∈a1::a2::L:=fun {a1 a2 L}=>List.mem_cons_of_mem _ List.mem_cons_self
 refine⟨fun vs w'=>∃(i:Nat) (gl:Option Nat) (cl:Nat),vs=[.slice (ptr gl) i cl,.int .i64 (i:Int)]∧i≤ps.length∧(∀j,j<i→(a.read (at_+1+(j:Int))).2=0)∧Rf p a F w0 w' (rowP 9 1 gl i cl (strV (readsF a at_ i))::blk k9 (rcC seq row (ptr g) ps.length cap) 79::rowP 136 3 g ps.length cap (rpL ps)::blk k4 zR 79::X),fun vs _=>match vs with|[_,.int _ i]=>(ps.length-i).toNat|_=>0,⟨0,some k45,0,rfl,by omega,fun j hj=>by omega,h18⟩,?_⟩
 rintro vs w19 ⟨i,gl,cl,rfl,hi,hok,h19⟩
 refine⟨_,_,_,_,rfl,_,_,_,h19.under.ld (c:=rcC seq row (ptr g) ps.length cap) (i:=2) m2 rfl,dec_t fun hlt=>?_,dec_f fun hge=>?_⟩
 ·have hlt:i<ps.length:=by omega
  have e41:IntKind.i64.wrap (IntKind.i64.wrap (at_+1)+(i:Int))=at_+1+(i:Int):=by
   rw[wrap64 (at_+1) (by omega) (by omega),wrap64 _ (by omega) (by omega)]
  rw[e41]
  refine(rread_r h19 hF (at_+1+(i:Int))).mono fun e w20 ⟨he20,hx20⟩=>⟨_,_,he20,?_⟩
  have h20:=h19.quiet hx20
  have hnext:=readsF_next a at_ i
  refine⟨bne_t fun hne=>bad w20 [_,_,_] h20 (by rw[hrec]; exact if_pos ⟨i,hlt,hne⟩),bne_f fun heq=>?_⟩
  rw[←strB_data (a.read (at_+1+(i:Int))).1]
  refine Rf.push1 (i:=Tryz.t9) (z:=.string (ByteArray.mk #[])) (by kernel_rfl) (by kernel_rfl) (by kernel_rfl) (by kernel_rfl) (by kernel_rfl) (by kernel_rfl) h20 rfl (by omega) fun g2 cap2 w24 h24=>⟨⟨i+1,g2,cap2,?_,by omega,fun j hj=>?_,?_⟩,?_⟩
  ·rw[wrap64 _ (by omega) (by omega)]; rfl
  ·by_cases hji:j=i
   ·rw[hji]; exact heq
   ·exact hok j (by omega)
  ·have:strV (readsF a at_ (i+1))=strV (readsF a at_ i)++[.string (strB (a.read (at_+1+(i:Int))).1.data.toList)]:=by
    rw[hnext]; unfold strV; rw[List.map_append]; rfl
   rw[this]; exact h24
  ·show((ps.length:Int)-IntKind.i64.wrap ((i:Int)+1)).toNat<((ps.length:Int)-(i:Int)).toNat
   rw[wrap64 _ (by omega) (by omega)]; omega
 ·have hie:i=ps.length:=by omega
  subst hie
  rw[if_neg (fun⟨j,hj,hx⟩=>hx (hok j hj))]at hrec
  have hlen:=readsF_len a at_ ps.length
  generalize readsF a at_ ps.length=L at hrec hlen h19
  have h19':Rf p a F w0 w19 (rowP 9 1 gl L.length cl (strV L)::blk k9 (rcC seq row (ptr g) ps.length cap) 79::rowP 136 3 g ps.length cap (rpL ps)::blk k4 zR 79::X):=by rw[hlen]; exact h19
  refine Rf.intoT h19' fun Γ hT hback=>?_
  have hrd:=rdec12_spec hT b hsz1 (L:=L) (gl:=gl) (cl:=cl) List.mem_cons_self
  rw[hlen]at hrd hback
  generalize decR b L=d at hrd hrec
  obtain⟨⟨seq',row',ps'⟩,e3⟩:=d
  refine hrd.mono fun e w25 ⟨g',cap',he25,hT25⟩=>⟨_,_,_,_,_,_,he25,?_⟩
  have h25:Rf p a F w0 w25 (rowP 136 3 g' ps'.length cap' (rpL ps')::rowP 9 1 gl ps.length cl (strV L)::blk k9 (rcC seq row (ptr g) ps.length cap) 79::rowP 136 3 g ps.length cap (rpL ps)::blk k4 zR 79::X):=hback w25 [_] hT25
  have h25:Rf p a F w0 w25 (blk k4 zR 79::rowP 136 3 g' ps'.length cap' (rpL ps')::X):=by
   have hp:=Rf.perm h25 (X':=rowP 9 1 gl ps.length cl (strV L)::blk k9 (rcC seq row (ptr g) ps.length cap) 79::rowP 136 3 g ps.length cap (rpL ps)::blk k4 zR 79::rowP 136 3 g' ps'.length cap' (rpL ps')::X) ((List.perm_middle (l₁:=[_,_,_,_]) (l₂:=X)).symm)
   exact hp.dropX.dropX.dropX
  refine Rf.alloc h25 fun k15 w26 h26=>Rf.st1 (c:=zR) (c':=#[.int .u64 (seq':Int),.int .i64 0,.slice none 0 0]) h26 (show 0<3 by decide) rfl rfl fun w27 h27=>Rf.st1 (c':=#[.int .u64 (seq':Int),.int .i64 row',.slice none 0 0]) h27 (show 1<3 by decide) rfl rfl fun w28 h28=>Rf.st1 (c':=rcC seq' row' (ptr g') ps'.length cap') h28 (show 2<3 by decide) rfl rfl fun w29 h29=>?_
  refine⟨_,_,_,_,_,⟨h29.under.ld (c:=rcC seq' row' (ptr g') ps'.length cap') List.mem_cons_self rfl,h29.under.ld (c:=rcC seq' row' (ptr g') ps'.length cap') (i:=1) List.mem_cons_self rfl,h29.under.ld (c:=rcC seq' row' (ptr g') ps'.length cap') (i:=2) List.mem_cons_self rfl⟩,?_⟩
  refine Rf.st1 (c':=#[.int .u64 (seq':Int),.int .i64 0,.slice none 0 0]) h29.dropX (show 0<3 by decide) rfl rfl fun w30 h30=>Rf.st1 (c':=#[.int .u64 (seq':Int),.int .i64 row',.slice none 0 0]) h30 (show 1<3 by decide) rfl rfl fun w31 h31=>Rf.st1 (c':=rcC seq' row' (ptr g') ps'.length cap') h31 (show 2<3 by decide) rfl rfl fun w32 h32=>?_
  refine⟨_,_,_,_,_,⟨h32.under.ld (c:=rcC seq' row' (ptr g') ps'.length cap') List.mem_cons_self rfl,h32.under.ld (c:=rcC seq' row' (ptr g') ps'.length cap') (i:=1) List.mem_cons_self rfl,h32.under.ld (c:=rcC seq' row' (ptr g') ps'.length cap') (i:=2) List.mem_cons_self rfl⟩,g',cap',?_,?_⟩
  ·rw[hrec]
   show Value.tuple #[_,.bool (e3==0)]=Value.tuple #[_,.bool (decide (e3=0))]
   have:(e3==0)=decide (e3=0):=by by_cases h0:e3=0<;>simp[h0]
   rw[this]; rfl
  ·rw[hrec]; exact h32.dropX
def ryOwn (l:List RcX):List A:=l.map fun x=>rowP 136 3 x.2.1 x.1.2.2.length x.2.2 (rpL x.1.2.2)
theorem ryOwn_snoc (l:List RcX) (x:RcX):ryOwn (l++[x])=ryOwn l++[rowP 136 3 x.2.1 x.1.2.2.length x.2.2 (rpL x.1.2.2)]:=by simp[ryOwn]
theorem open13_ring (h:Rf p a F w0 w X) (hF:a.Few 1000000) (hsz:∀i,(a.read i).1.data.toList.length≤64) (hs3:(a.read 3).2=0→(a.read 3).1.data.toList.length=64):
  Calls Tp 42 #[.pointer (some ⟨p,0,none⟩)] w fun e w'=>
   ((openF a).2≠0∧e=.returned (.tuple #[.pointer none,.slice none 0 0,.int .i64 (openF a).2])∧Rf p a F w0 w' X)∨
   ((openF a).2=0∧1≤(slotsN (a.safe.length:Int)).toNat∧∃r g cap lx,e=.returned (.tuple #[.pointer (some ⟨r,0,none⟩),.slice (ptr g) (lx:List RcX).length cap,.int .i64 0])∧lx.map (·.1)=recsF a (slotsN (a.safe.length:Int)).toNat (slotsN (a.safe.length:Int)).toNat (((openF a).1+1)%2 ^ 64)∧
    Rf p a F w0 w' (blk r (krC p (openF a).1 (((openF a).1+1+lx.length)%2 ^ 64)) 167::rowP 79 3 g lx.length cap (rxL lx)::(ryOwn lx++X))):=by
 let R:Value→World→Prop:=fun v w'=>((openF a).2≠0∧v=(.tuple #[.pointer none,.slice none 0 0,.int .i64 (openF a).2])∧Rf p a F w0 w' X)∨
   ((openF a).2=0∧1≤(slotsN (a.safe.length:Int)).toNat∧∃r g cap lx,v=(.tuple #[.pointer (some ⟨r,0,none⟩),.slice (ptr g) (lx:List RcX).length cap,.int .i64 0])∧lx.map (·.1)=recsF a (slotsN (a.safe.length:Int)).toNat (slotsN (a.safe.length:Int)).toNat (((openF a).1+1)%2 ^ 64)∧
    Rf p a F w0 w' (blk r (krC p (openF a).1 (((openF a).1+1+lx.length)%2 ^ 64)) 167::rowP 79 3 g lx.length cap (rxL lx)::(ryOwn lx++X)))
 refine(revetmentref13_Open_calls (R:=R) ?_).mono fun e w' ⟨v,he,hv⟩=>?_
 ·have bad:∀(w':World) (Δ:List A) (x:Int),Rf p a F w0 w' (Δ++X)→x≠0→(openF a).2=x→R (.tuple #[.pointer none,.slice none 0 0,.int .i64 x]) w':=fun w' Δ x hh hx he=>.inl ⟨by rw[he]; exact hx,by rw[he],Rf.back hh⟩
  have hl64:=h.len64
  obtain⟨S,hS⟩:∃S:Nat,slotsN (a.safe.length:Int)=(S:Int):=⟨(slotsN (a.safe.length:Int)).toNat,by unfold slotsN; omega⟩
  have hS99:S≤99:=by unfold slotsN at hS; omega
  have hof:openF a=if (a.read 3).2≠0 then (0,(a.read 3).2)
   else if (openB (a.read 3).1.data.toList).2=false∨(S:Int)=0 then (0,200)
   else if markB (leN (((openB (a.read 3).1.data.toList).1.drop 4).take 8))≠(a.read 3).1.data.toList then (0,200)
   else (leN (((openB (a.read 3).1.data.toList).1.drop 4).take 8),0):=by unfold openF; rw[hS]
  have hgood:∀(v:Value) (w':World) (t:Nat),openF a=(t,0)→1≤S→(∃r g cap lx,v=(.tuple #[.pointer (some ⟨r,0,none⟩),.slice (ptr g) (lx:List RcX).length cap,.int .i64 0])∧lx.map (·.1)=recsF a S S ((t+1)%2 ^ 64)∧Rf p a F w0 w' (blk r (krC p t ((t+1+lx.length)%2 ^ 64)) 167::rowP 79 3 g lx.length cap (rxL lx)::(ryOwn lx++X)))→R v w':=by
   intro v w' t ht h1 hv
   refine .inr ⟨by rw[ht],by rw[hS]; omega,?_⟩
   rw[ht,hS]
   exact hv
  have hslots:=fun(w':World)=>slots13_spec (a.safe.length:Int) (by omega) (by omega) w'
  have hread:=fun(w':World) (X':List A) (h':Rf p a F w0 w' X') (hh:1≤S) (m:Nat) (hm:m<2 ^ 64)=>read13_spec h' hF (fun i=>Nat.le_trans (hsz i) (by decide)) (by rw[hS]; exact hh) hm
  rw[hS]at hslots hread
  rw[Int.toNat_natCast]at hread
  clear_value R
  unfold revetmentref13_Open
  refine(rread_r h hF 3).mono fun e w1 ⟨he1,hx1⟩=>⟨_,_,he1,?_⟩
  have h1:=h.quiet hx1
  try dsimp only
  rw[←strB_data (a.read 3).1]
  generalize (a.read 3).1.data.toList=b at hof hs3
  generalize (a.read 3).2=er at hof hs3
  refine⟨bne_t fun hne=>bad w1 [] er h1 hne (by rw[hof,if_pos hne]),bne_f fun heq=>?_⟩
  rw[if_neg (fun hn=>hn heq)]at hof
  have h64:=hs3 heq
  refine(ropen_spec (strB b) (by rw[strB_size]; omega) w1).mono fun e w2 ⟨he2,hx2⟩=>⟨_,_,he2,?_⟩
  have eb:(strB b).data.toList=b:=rfl
  try dsimp only
  try rw[eb]
  have h2:=h1.quiet hx2
  refine⟨not_t fun ho=>bad w2 [] 200 h2 (by decide) (by rw[hof,if_pos (Or.inl ho)]),not_f fun ho=>?_⟩
  obtain⟨g2,c2,hc2⟩:=h2.len
  refine⟨_,rfl,_,_,_,hc2,?_⟩
  refine(hslots w2).mono fun e w3 ⟨he3,hx3⟩=>⟨_,he3,?_⟩
  have h3:=h2.quiet hx3
  refine⟨beq_t fun h0=>bad w3 [] 200 h3 (by decide) (by rw[hof,if_pos (Or.inr h0)]),beq_f fun hn0=>?_⟩
  rw[if_neg (by rw[ho]; simp; omega)]at hof
  rw[openB_take h64 ho]at hof⊢
  have hl60:(b.take 60).length=60:=by rw[List.length_take]; omega
  have s1:=slice_mid (P:=Tp) (t:=9) (k:=.i64) (k':=.i64) (s:=strB (b.take 60)) (lo:=4) (hi:=12) (w:=w3) (by kernel_rfl) (by omega) (by omega) (by rw[strB_size,hl60]; omega)
  rw[strB_extract]at s1
  have e1:(((b.take 60).drop (4:Int).toNat).take ((12:Int).toNat-(4:Int).toNat))=((b.take 60).drop 4).take 8:=rfl
  rw[e1]at s1
  refine⟨_,w3,s1,?_⟩
  have hl8:(((b.take 60).drop 4).take 8).length=8:=by rw[List.length_take,List.length_drop]; omega
  generalize ((b.take 60).drop 4).take 8=l8 at hof hl8
  have ht64:leN l8<2 ^ 64:=by
   have:=leN_lt l8
   rw[hl8]at this
   have q8:(256:Nat) ^ 8=2 ^ 64:=by decide
   omega
  refine Rf.alloc h3 fun k42 w5 h5=>?_
  have h5:Rf p a F w0 w5 (rowP 3 1 (some k42) 1 1 (intsN [8])::X):=Rf.blkRow h5 rfl rfl (by decide)
  refine Rf.intoT h5 fun Γ hT hback=>?_
  refine(rdecode_spec (ws:=[8]) rwid8 (s:=strB l8) (by rw[strB_size,hl8]; rfl) hT (g2:=some k42) (n2:=1) (c2:=1) rfl List.mem_cons_self).mono fun e w6 ⟨gd,cd,he6,hT6⟩=>⟨_,_,_,_,he6,?_⟩
  have ed:decP (strB l8).data.toList [8]=[leN l8]:=by
   show[leN (l8.take 8)]=_
   rw[List.take_of_length_le (by omega)]
  rw[ed]at hT6
  have h6:=hback w6 [_] hT6
  generalize leN l8=t at hof ht64 hT6 h6
  have h6:Rf p a F w0 w6 (rowP 70 1 gd 1 cd (u64s [t])::rowP 3 1 (some k42) 1 1 (intsN [8])::X):=h6
  obtain⟨bd,rfl⟩:=rowP.pos (h6.under.says List.mem_cons_self) (by decide)
  refine⟨_,rfl,by omega,by decide,_,rowP.cell (k:=0) (h6.under.says List.mem_cons_self) rfl,?_⟩
  refine(mark13_spec ht64 w6).mono fun e w7 ⟨he7,hx7⟩=>⟨_,he7,?_⟩
  have h7:=h6.quiet hx7
  try dsimp only
  rw[strB_toList,strB_toList]
  have hbm:∀{q:Bool},(b==markB t)=q→(markB t≠b↔q=false):=fun {q} h=>by
   rw[←h]
   constructor
   ·intro hn; exact beq_eq_false_iff_ne.2 (fun e=>hn e.symm)
   ·intro hn e; rw[e]at hn; simp at hn
  refine⟨not_t fun hm=>bad w7 [_,_] 200 h7 (by decide) (by rw[hof,if_pos ((hbm rfl).2 hm)]),not_f fun hm=>?_⟩
  rw[if_neg (fun hn=>by have:=(hbm hm).1 hn; cases this)]at hof
  have h7d:=h7.drew
  have cellU:∀{w':World} {Δ:List A},Rf p a F w0 w' Δ→rowP 70 1 (some bd) 1 cd (u64s [t])∈Δ→w'.cell? ⟨bd,0,none⟩=some (.int .u64 (t:Int)):=fun hh hm=>rowP.cell (k:=0) (hh.under.says hm) rfl
  refine⟨fun w'=>∃Δ,rowP 70 1 (some bd) 1 cd (u64s [t])∈Δ∧Rf p a F w0 w' Δ,⟨_,List.mem_cons_self,h7d⟩,_,rfl,by omega,by decide,(t:Int),fun w' ⟨Δ,hm',h'⟩=>cellU h' hm',_,rfl,by omega,by decide,(t:Int),fun w' ⟨Δ,hm',h'⟩=>cellU h' hm',?_⟩
  have ew:IntKind.u64.wrap ((t:Int)+1)=(((t+1)%2 ^ 64:Nat):Int):=by rw[wrapU64]; omega
  rw[ew]
  refine Rf.alloc h7d fun r w8 h8=>⟨⟨_,List.mem_cons_of_mem _ List.mem_cons_self,h8⟩,?_⟩
  have h8:Rf p a F w0 w8 (blk r (krC p t ((t+1)%2 ^ 64)) 167::rowP 70 1 (some bd) 1 cd (u64s [t])::rowP 3 1 (some k42) 1 1 (intsN [8])::X):=h8
  refine Rf.alloc h8 fun k62 w9 h9=>?_
  have h9:=Rf.rowN (size:=3) h9 rfl
  have h9:Rf p a F w0 w9 (rowP 79 3 (some k62) 0 0 []::blk r (krC p t ((t+1)%2 ^ 64)) 167::X):=by
   have hp:=Rf.perm h9 (X':=rowP 70 1 (some bd) 1 cd (u64s [t])::rowP 3 1 (some k42) 1 1 (intsN [8])::rowP 79 3 (some k62) 0 0 []::blk r (krC p t ((t+1)%2 ^ 64)) 167::X) (List.perm_append_comm_assoc [_,_] [_,_] X)
   exact hp.dropX.dropX
  refine⟨fun vs w'=>∃(lx:List RcX) (g:Option Nat) (cap:Nat),vs=[.slice (ptr g) lx.length cap]∧lx.length≤S∧recsF a S S ((t+1)%2 ^ 64)=lx.map (·.1)++recsF a S (S-lx.length) ((t+1+lx.length)%2 ^ 64)∧Rf p a F w0 w' (rowP 79 3 g lx.length cap (rxL lx)::blk r (krC p t ((t+1+lx.length)%2 ^ 64)) 167::(ryOwn lx++X)),fun vs _=>match vs with|[.slice _ l _]=>S-l|_=>0,⟨[],some k62,0,rfl,Nat.zero_le _,rfl,h9⟩,?_⟩
  rintro vs w10 ⟨lx,g,cap,rfl,hlx,hrs,h10⟩
  have hfin:∀(w':World),recsF a S (S-lx.length) ((t+1+lx.length)%2 ^ 64)=[]→Rf p a F w0 w' (rowP 79 3 g lx.length cap (rxL lx)::blk r (krC p t ((t+1+lx.length)%2 ^ 64)) 167::(ryOwn lx++X))→R (.tuple #[.pointer (some ⟨r,0,none⟩),.slice (ptr g) lx.length cap,.int .i64 0]) w':=by
   intro w' he hh
   exact hgood _ _ t hof (by omega) ⟨r,g,cap,lx,rfl,by rw[hrs,he,List.append_nil],Rf.perm hh (.swap _ _ _)⟩
  obtain⟨g10,c10,hc10⟩:=h10.len
  refine⟨_,_,_,rfl,_,rfl,_,_,_,hc10,?_⟩
  refine(hslots w10).mono fun e w11 ⟨he11,hx11⟩=>⟨_,he11,?_⟩
  have h11:=h10.quiet hx11
  refine⟨dec_t fun hlt=>?_,dec_f fun hge=>?_⟩
  ·have hlt:lx.length<S:=by omega
   refine⟨_,rfl,_,by rw[addr_add]; exact h11.under.ld (c:=krC p t ((t+1+lx.length)%2 ^ 64)) (List.mem_cons_of_mem _ List.mem_cons_self) rfl,?_⟩
   have hmlt:(t+1+lx.length)%2 ^ 64<2 ^ 64:=Nat.mod_lt _ (by decide)
   have hrec:=hread w11 _ h11 (by omega) _ hmlt
   have hone:recsF a S (S-lx.length) ((t+1+lx.length)%2 ^ 64)=if (recF a S ((t+1+lx.length)%2 ^ 64)).2 then (recF a S ((t+1+lx.length)%2 ^ 64)).1::recsF a S (S-(lx.length+1)) ((t+1+(lx.length+1))%2 ^ 64) else []:=by
    obtain⟨k,hk⟩:∃k,S-lx.length=k+1:=⟨S-lx.length-1,by omega⟩
    rw[hk,show S-(lx.length+1)=k by omega,show(t+1+(lx.length+1))%2 ^ 64=((t+1+lx.length)%2 ^ 64+1)%2 ^ 64 by omega]
    rfl
   generalize recF a S ((t+1+lx.length)%2 ^ 64)=d at hrec hone
   obtain⟨⟨sq,row,ps⟩,ok⟩:=d
   refine hrec.mono fun e w12 ⟨gp,cp,he12,h12⟩=>⟨_,_,_,_,_,_,he12,?_⟩
   have h12:Rf p a F w0 w12 (rowP 136 3 gp ps.length cp (rpL ps)::rowP 79 3 g lx.length cap (rxL lx)::blk r (krC p t ((t+1+lx.length)%2 ^ 64)) 167::(ryOwn lx++X)):=h12
   refine Rf.alloc h12 fun k13 w15 h15=>Rf.st1 (c:=zR) (c':=#[.int .u64 (sq:Int),.int .i64 0,.slice none 0 0]) h15 (show 0<3 by decide) rfl rfl fun w16 h16=>Rf.st1 (c':=#[.int .u64 (sq:Int),.int .i64 row,.slice none 0 0]) h16 (show 1<3 by decide) rfl rfl fun w17 h17=>Rf.st1 (c':=rcC sq row (ptr gp) ps.length cp) h17 (show 2<3 by decide) rfl rfl fun w18 h18=>?_
   refine⟨not_t fun ho=>hfin w18 (by rw[hone]; exact if_neg (by rw[show ok=false from ho]; simp)) h18.dropX.dropX,not_f fun ho=>?_⟩
   have ho:ok=true:=ho
   subst ho
   have hone:recsF a S (S-lx.length) ((t+1+lx.length)%2 ^ 64)=(sq,row,ps)::recsF a S (S-(lx.length+1)) ((t+1+(lx.length+1))%2 ^ 64):=hone
   refine⟨_,_,_,_,_,⟨h18.under.ld (c:=rcC sq row (ptr gp) ps.length cp) List.mem_cons_self rfl,h18.under.ld (c:=rcC sq row (ptr gp) ps.length cp) (i:=1) List.mem_cons_self rfl,h18.under.ld (c:=rcC sq row (ptr gp) ps.length cp) (i:=2) List.mem_cons_self rfl⟩,?_⟩
   have h18p:=Rf.perm h18.dropX (X':=rowP 79 3 g lx.length cap (rxL lx)::rowP 136 3 gp ps.length cp (rpL ps)::blk r (krC p t ((t+1+lx.length)%2 ^ 64)) 167::(ryOwn lx++X)) (.swap _ _ _)
   refine Rf.pushN (t:=73) (i:=Tryz.t79) (z:=.agg #[.int .u64 0,.int .i64 0,.slice none 0 0]) (c:=rcC sq row (ptr gp) ps.length cp) (size:=3) (by kernel_rfl) (by kernel_rfl) (by kernel_rfl) (by kernel_rfl) (by kernel_rfl) (by kernel_rfl) h18p rfl (fun u hu=>?_) (by omega) fun g' cap' w20 h20=>?_
   ·have hu:u∈[Value.int .u64 (sq:Int),.int .i64 row,.slice (ptr gp) ps.length cp]:=hu
    simp only[List.mem_cons,List.not_mem_nil,or_false]at hu
    rcases hu with rfl|rfl|rfl<;>rfl
   ·have hsn:rxL lx++(rcC sq row (ptr gp) ps.length cp).toList=rxL (lx++[((sq,row,ps),gp,cp)]):=rxL_snoc lx ((sq,row,ps),gp,cp)
    rw[hsn]at h20
    refine⟨_,rfl,_,by rw[addr_add]; exact h20.under.ld (c:=krC p t ((t+1+lx.length)%2 ^ 64)) (List.mem_cons_of_mem _ (List.mem_cons_of_mem _ List.mem_cons_self)) rfl,_,rfl,?_⟩
    have h20p:=Rf.perm h20 (X':=blk r (krC p t ((t+1+lx.length)%2 ^ 64)) 167::rowP 79 3 g' (lx.length+1) cap' (rxL (lx++[((sq,row,ps),gp,cp)]))::rowP 136 3 gp ps.length cp (rpL ps)::(ryOwn lx++X)) (List.perm_middle (l₁:=[_,_]) (l₂:=ryOwn lx++X))
    rw[addr_add]
    have ew:IntKind.u64.wrap ((((t+1+lx.length)%2 ^ 64:Nat):Int)+1)=(((t+1+(lx.length+1))%2 ^ 64:Nat):Int):=by rw[wrapU64]; omega
    rw[ew]
    refine Rf.st1 (c':=krC p t ((t+1+(lx.length+1))%2 ^ 64)) h20p (show 0+2<3 by decide) rfl rfl fun w21 h21=>?_
    have hl1:(lx++[((sq,row,ps),gp,cp)]).length=lx.length+1:=by rw[List.length_append]; rfl
    refine⟨⟨lx++[((sq,row,ps),gp,cp)],g',cap',by rw[hl1],by rw[hl1]; omega,by rw[hrs,hone,hl1,List.map_append,List.append_assoc]; rfl,?_⟩,?_⟩
    ·rw[hl1,ryOwn_snoc]
     refine Rf.perm h21 ((List.Perm.swap _ _ _).trans (List.Perm.cons _ (List.Perm.cons _ ?_)))
     rw[List.append_assoc]
     exact List.perm_middle.symm
    ·show S-(lx.length+1)<S-lx.length
     omega
  ·exact hfin w11 (by rw[show S-lx.length=0 by omega]; rfl) h11
 ·rcases hv with⟨h1,h2,h3⟩|⟨h1,h2,r,g,cap,lx,h3,h4⟩
  ·exact .inl ⟨h1,by rw[he,h2],h3⟩
  ·exact .inr ⟨h1,h2,r,g,cap,lx,by rw[he,h3],h4⟩
end
section
variable {p q:Nat}{a b:AD}{F:List Nat}{w0 w:World}{X:List A}
end
def apF (a:AD) (S t n:Nat) (row:Int) (l:List RP):AD×Nat×Int×Int:=
 if leftF S t n<1 then (a,n,0,130) else if PlacedR row l∧LoadedR l then ((runS a (appOps S n row l)).1,(if (runS a (appOps S n row l)).2=0 then (n+1)%2 ^ 64 else n),(if (runS a (appOps S n row l)).2=0 then (n:Int) else 0),(runS a (appOps S n row l)).2) else (a,n,0,1)
section
variable {p q r t n S:Nat}{a:AD}{F:List Nat}{w0 w:World}{X:List A}
theorem append_all (h:Dr p a F w0 w (blk r (rgC p S t n) 128::X)){N:Nat}(hF:a.Few N) (hN:N+100≤1000000) (h1S:1≤S) (h2S:S≤1000000) (hs:n<2 ^ 64){row:Int}{g:Option Addr}{c m:Nat}{l:List RP}(hm:m=l.length) (hp:∀(w':World) (Δ:List A),T F w0 w' (Δ++X)→partsAt w' g l) (hl:l.length≤1000000):
  Calls Tp 44 #[.pointer (some ⟨r,0,none⟩),.int .i64 row,.slice g m c] w fun e w'=>e=.returned (.tuple #[.int .u64 (apF a S t n row l).2.2.1,.int .i64 (apF a S t n row l).2.2.2])∧Dr p (apF a S t n row l).1 F w0 w' (blk r (rgC p S t (apF a S t n row l).2.1) 128::X):=by
 subst hm
 unfold apF
 by_cases hb:leftF S t n<1
 ·rw[if_pos hb]; exact append_busy h List.mem_cons_self hb row g _ c
 ·rw[if_neg hb]
  by_cases hq:PlacedR row l∧LoadedR l
  ·rw[if_pos hq]; exact append_good_p h hF hN h1S h2S hs hb hp hq.1 hq.2
  ·rw[if_neg hq]; exact append_bad_p h List.mem_cons_self hb (fun w' Δ h'=>hp w' (Δ++[_]) (by rw[List.append_assoc]; exact h')) hl hq
end
end Go.Proofs.YtkknkmplmilihaaGreat
end
