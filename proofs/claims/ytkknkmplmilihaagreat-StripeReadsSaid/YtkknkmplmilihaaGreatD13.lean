import Derived.Test.YtkknkmplmilihaaGreatD10
import Derived.Test.YtkknkmplmilihaaGreatD11
import Derived.Test.YtkknkmplmilihaaGreatD12
set_option linter.unusedSimpArgs false
set_option linter.unusedVariables false
set_option maxHeartbeats 2000000
set_option maxRecDepth 20000
section
namespace Go.Proofs.YtkknkmplmilihaaGreat
open Go.Sh Go.RowKit
theorem srt_two {a b:Int}(h:a<b):srt [a,b]=[a,b]∧srt [b,a]=[a,b]:=by
 have key:∀l:List Int,l.length=2→(∀x,x∈l↔(x=a∨x=b))→srt l=[a,b]:=by
  intro l hl hm
  have hlen:=srt_len l
  have hs:(srt l).Pairwise fun x y=>decide (x≤y)=true:=List.pairwise_mergeSort (fun x y z h1 h2=>by simp at *; omega) (fun x y=>by simp; omega) l
  match hq:srt l,(by rw[hlen,hl]:(srt l).length=2) with
  |[x,y],_=>
   rw[hq]at hs
   have hxy:x≤y:=by simpa using hs
   have ha:a∈[x,y]:=by rw[←hq,srt_mem,hm]; exact .inl rfl
   have hb:b∈[x,y]:=by rw[←hq,srt_mem,hm]; exact .inr rfl
   simp only[List.mem_cons,List.not_mem_nil,or_false]at ha hb
   have:x=a∧y=b:=by omega
   rw[this.1,this.2]
 exact⟨key _ rfl fun x=>by simp,key _ rfl fun x=>by simp[or_comm]⟩
def makeF (L:List Txt):List Txt:=L++[sumT L,qT L]
theorem makeF_len (L:List Txt):(makeF L).length=L.length+2:=by simp[makeF]
def AllLen (L:List Txt) (m:Nat):Prop:=∀j,j<L.length→(L.getD j []).length=m
theorem sAcc_all {L:List Txt}{m:Nat}(h:AllLen L m):∀k,0<k→k≤L.length→(sAcc L k).length=m
 |1,_,h1=>by simp only[sAcc,xorT_len]; rw[h 0 (by omega)]; simp
 |k+2,_,h2=>by
  have:=sAcc_all h (k+1) (by omega) (by omega)
  simp only[sAcc,xorT_len]at this⊢
  rw[h (k+1) (by omega)]; omega
theorem qAcc_all {L:List Txt}{m:Nat}(h:AllLen L m):∀k,0<k→k≤L.length→(qAcc L k).length=m
 |1,_,h1=>by simp only[qAcc,xorT_len,timesL_len]; rw[h 0 (by omega)]; simp
 |k+2,_,h2=>by
  have:=qAcc_all h (k+1) (by omega) (by omega)
  simp only[qAcc,xorT_len,timesL_len]at this⊢
  rw[h (k+1) (by omega)]; omega
theorem makeF_get (L:List Txt) (j:Nat):(makeF L).getD j []=if j<L.length then L.getD j [] else if j=L.length then sumT L else if j=L.length+1 then qT L else []:=by
 unfold makeF
 simp only[List.getD_eq_getElem?_getD]
 by_cases h:j<L.length
 ·rw[if_pos h,List.getElem?_append_left h]
 rw[if_neg h,List.getElem?_append_right (by omega)]
 by_cases h1:j=L.length
 ·subst h1; rw[if_pos rfl]; simp
 rw[if_neg h1]
 by_cases h2:j=L.length+1
 ·subst h2; rw[if_pos rfl]; simp
 rw[if_neg h2,List.getElem?_eq_none (by simp; omega)]; rfl
theorem makeF_all {L:List Txt}{m:Nat}(h:AllLen L m) (h0:0<L.length):AllLen (makeF L) m:=fun j hj=>by
 rw[makeF_len]at hj
 rw[makeF_get]
 split
 ·exact h j (by assumption)
 ·split
  ·exact sAcc_all h _ h0 (Nat.le_refl _)
  ·rw[if_pos (by omega)]; exact qAcc_all h _ h0 (Nat.le_refl _)
theorem take_get (L:List Txt) (n j:Nat) (h:j<n):(L.take n).getD j []=L.getD j []:=by simp[List.getD,h]
theorem list_ext {A B:List Txt}(h:A.length=B.length) (hg:∀j,j<A.length→A.getD j []=B.getD j []):A=B:=by
 apply List.ext_getElem h
 intro j h1 h2
 have:=hg j h1
 simpa[List.getD,h1,h2] using this
theorem getD_set (L:List Txt) (i j:Nat) (x:Txt) (hi:i<L.length):(L.set i x).getD j []=if i=j then x else L.getD j []:=by
 simp only[List.getD_eq_getElem?_getD,List.getElem?_set]
 by_cases h:i=j
 ·rw[if_pos h,if_pos hi,if_pos h]; rfl
 ·rw[if_neg h,if_neg h]
theorem fill_none (R:List Txt):fillF R []=R:=by
 have:srt []=[]:=List.eq_nil_of_length_eq_zero (srt_len [])
 unfold fillF fillS
 rw[this]
 show fillK (kindA _ [] 0 0) (kindA _ [] 1 0) _ _ _=_
 have e:∀n j,kindA n [] j 0=0:=fun n j=>by unfold kindA; rw[if_neg (by simp)]
 rw[e,e]
 rfl
theorem fill_pq {R:List Txt}(h4:4≤R.length):fillF R [((R.length-2:Nat):Int),((R.length-1:Nat):Int)]=makeF (R.take (R.length-2)):=by
 obtain⟨e1,_⟩:=srt_two (a:=((R.length-2:Nat):Int)) (b:=((R.length-1:Nat):Int)) (by omega)
 unfold fillF
 rw[e1]
 unfold fillS
 have k0:kindA (R.length-2) [((R.length-2:Nat):Int),((R.length-1:Nat):Int)] 0 2=2:=by
  unfold kindA; rw[if_pos (by simp)]
  show kindF _ ((R.length-2:Nat):Int)=2
  unfold kindF; rw[if_neg (by omega),if_pos rfl]
 have k1:kindA (R.length-2) [((R.length-2:Nat):Int),((R.length-1:Nat):Int)] 1 2=3:=by
  unfold kindA; rw[if_pos (by simp)]
  show kindF _ ((R.length-1:Nat):Int)=3
  unfold kindF; rw[if_neg (by omega),if_neg (by omega)]
 show fillK (kindA (R.length-2) _ 0 2) (kindA (R.length-2) _ 1 2) (zerL R _ (lastLen R _ R.length) 2) _ _=_
 rw[k0,k1]
 generalize lastLen R _ R.length=z
 have hZ:zerL R [((R.length-2:Nat):Int),((R.length-1:Nat):Int)] z 2=(R.set (R.length-2) (List.replicate z 0)).set (R.length-1) (List.replicate z 0):=rfl
 rw[hZ]
 generalize hZZ:(R.set (R.length-2) (List.replicate z 0)).set (R.length-1) (List.replicate z 0)=Z
 have hl:Z.length=R.length:=by rw[←hZZ]; simp
 have hg:∀j,j<R.length-2→Z.getD j []=R.getD j []:=fun j hj=>by
  rw[←hZZ,getD_set _ _ _ _ (by simp; omega),if_neg (by omega),getD_set _ _ _ _ (by omega),if_neg (by omega)]
 show rparQ (rparP Z)=_
 have ht:Z.take (R.length-2)=R.take (R.length-2):=by
  apply list_ext
  ·simp[hl]
  ·intro j hj
   rw[List.length_take]at hj
   rw[take_get _ _ _ (by omega),take_get _ _ _ (by omega),hg j (by omega)]
 have ht2:(rparP Z).take (R.length-2)=R.take (R.length-2):=by
  apply list_ext
  ·simp[parP_len,hl]
  ·intro j hj
   rw[List.length_take]at hj
   rw[take_get _ _ _ (by omega),take_get _ _ _ (by omega)]
   unfold rparP
   rw[getD_set _ _ _ _ (by omega),if_neg (by omega),hg j (by omega)]
 have htl:(R.take (R.length-2)).length=R.length-2:=by rw[List.length_take]; omega
 apply list_ext
 ·unfold rparQ; rw[List.length_set,parP_len,makeF_len,htl]; omega
 ·intro j hj
  unfold rparQ at hj⊢
  rw[List.length_set,parP_len]at hj
  rw[makeF_get,htl,parP_len,hl,ht2,getD_set _ _ _ _ (by rw[parP_len]; omega)]
  by_cases h1:R.length-1=j
  ·rw[if_pos h1,if_neg (by omega),if_neg (by omega),if_pos (by omega)]
  rw[if_neg h1]
  unfold rparP
  rw[hl,ht,getD_set _ _ _ _ (by omega)]
  by_cases h2:R.length-2=j
  ·rw[if_pos h2,if_neg (by omega),if_pos h2.symm]
  rw[if_neg h2,if_pos (by omega),take_get _ _ _ (by omega),hg j (by omega)]
def sx (f:Nat→UInt8):Nat→UInt8
 |0=>0
 |n+1=>sx f n^^^f n
def wq (f:Nat→UInt8):Nat→UInt8:=fun c=>xp c (f c)
def col (L:List Txt) (j:Nat):Nat→UInt8:=fun c=>(L.getD c []).getD j 0
theorem sx_congr {f g:Nat→UInt8}:∀{n:Nat},(∀c,c<n→f c=g c)→sx f n=sx g n
 |0,_=>rfl
 |n+1,h=>by simp only[sx]; rw[sx_congr fun c hc=>h c (by omega),h n (by omega)]
theorem xor4 (a b c d:UInt8):(a^^^b)^^^(c^^^d)=(a^^^c)^^^(b^^^d):=by
 rw[UInt8.xor_assoc,UInt8.xor_assoc,←UInt8.xor_assoc b,UInt8.xor_comm b c,UInt8.xor_assoc c]
theorem sx_xor (f g:Nat→UInt8):∀n,sx (fun c=>f c^^^g c) n=sx f n^^^sx g n
 |0=>by simp[sx]
 |n+1=>by simp only[sx]; rw[sx_xor f g n,xor4]
theorem sx_zero {f:Nat→UInt8}:∀{n:Nat},(∀c,c<n→f c=0)→sx f n=0
 |0,_=>rfl
 |n+1,h=>by simp only[sx]; rw[sx_zero fun c hc=>h c (by omega),h n (by omega)]; rfl
theorem sx_one {f:Nat→UInt8}{i:Nat}:∀{n:Nat},i<n→(∀c,c<n→c≠i→f c=0)→sx f n=f i
 |n+1,hi,h=>by
  simp only[sx]
  by_cases e:i=n
  ·subst e
   rw[sx_zero fun c hc=>h c (by omega) (by omega),UInt8.zero_xor]
  ·rw[sx_one (by omega) fun c hc=>h c (by omega),h n (by omega) (by omega),UInt8.xor_zero]
theorem sx_two {f:Nat→UInt8}{i k:Nat}(hik:i<k):∀{n:Nat},k<n→(∀c,c<n→c≠i→c≠k→f c=0)→sx f n=f i^^^f k
 |n+1,hk,h=>by
  simp only[sx]
  by_cases e:k=n
  ·subst e
   rw[sx_one hik fun c hc hi=>h c (by omega) hi (by omega)]
  ·rw[sx_two hik (by omega) fun c hc=>h c (by omega),h n (by omega) (by omega) (by omega),UInt8.xor_zero]
def PRel (f:Nat→UInt8) (n:Nat):Prop:=f n=sx f n
def QRel (f:Nat→UInt8) (n:Nat):Prop:=f (n+1)=sx (wq f) n
theorem wq_xor (f g:Nat→UInt8):wq (fun c=>f c^^^g c)=fun c=>wq f c^^^wq g c:=by funext c; exact xp_xor _ _ _
theorem PRel.xor {f g:Nat→UInt8}{n:Nat}(hf:PRel f n) (hg:PRel g n):PRel (fun c=>f c^^^g c) n:=by
 unfold PRel at *; rw[sx_xor]; show f n^^^g n=_; rw[hf,hg]
theorem QRel.xor {f g:Nat→UInt8}{n:Nat}(hf:QRel f n) (hg:QRel g n):QRel (fun c=>f c^^^g c) n:=by
 unfold QRel at *; rw[wq_xor,sx_xor]; show f (n+1)^^^g (n+1)=_; rw[hf,hg]
theorem wq_zero {f:Nat→UInt8}{c:Nat}(h:f c=0):wq f c=0:=by unfold wq; rw[h,xp_zero]
theorem xp_eq_zero {k:Nat}{x:UInt8}(h:xp k x=0):x=0:=Classical.byContradiction fun e=>xp_ne e h
theorem xp_two {i k:Nat}{x:UInt8}(hi:i<255) (hk:k<255) (hik:i≠k) (h:xp i x=xp k x):x=0:=
 Classical.byContradiction fun e=>hik (ex_inj hi hk (by
  rw[←mulG_ex,←mulG_ex,mulG_comm,mulG_comm x]at h
  exact mulG_inj e h))
theorem two_zero {d:Nat→UInt8}{n i k:Nat}(hP:PRel d n) (hQ:QRel d n) (hik:i<k) (hk:k≤n+1) (hn:n≤253) (hz:∀c,c<n+2→c≠i→c≠k→d c=0):d i=0∧d k=0:=by
 unfold PRel at hP
 unfold QRel at hQ
 rcases Nat.lt_trichotomy k n with h|h|h
 ·rw[hz n (by omega) (by omega) (by omega),sx_two hik h fun c hc=>hz c (by omega)]at hP
  rw[hz (n+1) (by omega) (by omega) (by omega),sx_two hik h fun c hc h1 h2=>wq_zero (hz c (by omega) h1 h2)]at hQ
  have e1:=UInt8.xor_eq_zero_iff.1 hP.symm
  have e2:xp i (d i)=xp k (d k):=UInt8.xor_eq_zero_iff.1 hQ.symm
  rw[←e1]at e2
  have e3:=xp_two (by omega) (by omega) (by omega) e2
  exact⟨e3,by rw[←e1]; exact e3⟩
 ·subst h
  rw[hz (k+1) (by omega) (by omega) (by omega),sx_one hik fun c hc h1=>wq_zero (hz c (by omega) h1 (by omega))]at hQ
  have e1:=xp_eq_zero hQ.symm
  rw[sx_one hik fun c hc h1=>hz c (by omega) h1 (by omega),e1]at hP
  exact⟨e1,hP⟩
 ·obtain rfl:k=n+1:=by omega
  by_cases hi:i=n
  ·subst hi
   rw[sx_zero fun c hc=>hz c (by omega) (by omega) (by omega)]at hP
   rw[sx_zero fun c hc=>wq_zero (hz c (by omega) (by omega) (by omega))]at hQ
   exact⟨hP,hQ⟩
  ·have hi':i<n:=by omega
   rw[hz n (by omega) (by omega) (by omega),sx_one hi' fun c hc h1=>hz c (by omega) h1 (by omega)]at hP
   rw[sx_one hi' fun c hc h1=>wq_zero (hz c (by omega) h1 (by omega)),wq_zero hP.symm]at hQ
   exact⟨hP.symm,hQ⟩
theorem one_zero {d:Nat→UInt8}{n i:Nat}(hP:i≤n→PRel d n) (hQ:i=n+1→QRel d n) (hi:i≤n+1) (hz:∀c,c<n+2→c≠i→d c=0):d i=0:=by
 rcases Nat.lt_trichotomy i n with h|h|h
 ·have:=hP (by omega)
  unfold PRel at this
  rw[hz n (by omega) (by omega),sx_one h fun c hc h1=>hz c (by omega) h1]at this
  exact this.symm
 ·subst h
  have:=hP (by omega)
  unfold PRel at this
  rw[this,sx_zero fun c hc=>hz c (by omega) (by omega)]
 ·obtain rfl:i=n+1:=by omega
  have:=hQ rfl
  unfold QRel at this
  rw[this,sx_zero fun c hc=>wq_zero (hz c (by omega) (by omega))]
structure Filled (n:Nat) (lost:List Int) (f:Nat→UInt8):Prop where
 two:lost.length=2→PRel f n∧QRel f n
 one:∀i:Nat,lost=[(i:Int)]→(i≤n→PRel f n)∧(i=n+1→QRel f n)
theorem Filled.good {n:Nat}{f:Nat→UInt8}(hP:PRel f n) (hQ:QRel f n) (lost:List Int):Filled n lost f:=⟨fun _=>⟨hP,hQ⟩,fun _ _=>⟨fun _=>hP,fun _=>hQ⟩⟩
theorem filled_unique {n:Nat}{lost:List Int}{f g:Nat→UInt8}(hn:n≤253) (hl:lost.length≤2) (hnd:lost.Nodup) (hr:∀x∈lost,0≤x∧x<(n:Int)+2) (hf:Filled n lost f) (hg:Filled n lost g)
  (h:∀c:Nat,c<n+2→(c:Int)∉lost→f c=g c):∀c,c<n+2→f c=g c:=by
 have out:∀c,f c^^^g c=0→f c=g c:=fun c e=>UInt8.xor_eq_zero_iff.1 e
 have inn:∀c,f c=g c→f c^^^g c=0:=fun c e=>UInt8.xor_eq_zero_iff.2 e
 match lost,hl with
 |[],_=>exact fun c hc=>h c hc (by simp)
 |[x],_=>
  obtain⟨h0,h1⟩:=hr x (by simp)
  obtain⟨i,rfl⟩:∃i:Nat,x=(i:Int):=⟨x.toNat,by omega⟩
  have hF:=hf.one i rfl
  have hG:=hg.one i rfl
  have key:=one_zero (d:=fun c=>f c^^^g c) (n:=n) (i:=i) (fun hi=>(hF.1 hi).xor (hG.1 hi)) (fun hi=>(hF.2 hi).xor (hG.2 hi)) (by omega) fun c hc hci=>inn c (h c hc (by simp; omega))
  intro c hc
  by_cases e:c=i
  ·subst e; exact out c key
  ·exact h c hc (by simp; omega)
 |[x,y],_=>
  obtain⟨h0,h1⟩:=hr x (by simp)
  obtain⟨h2,h3⟩:=hr y (by simp)
  obtain⟨i,rfl⟩:∃i:Nat,x=(i:Int):=⟨x.toNat,by omega⟩
  obtain⟨k,rfl⟩:∃k:Nat,y=(k:Int):=⟨y.toNat,by omega⟩
  have hik:i≠k:=fun e=>by simp[e]at hnd
  have hF:=hf.two rfl
  have hG:=hg.two rfl
  have hP:=hF.1.xor hG.1
  have hQ:=hF.2.xor hG.2
  have hz:∀c,c<n+2→c≠i→c≠k→f c^^^g c=0:=fun c hc hci hck=>inn c (h c hc (by simp; omega))
  have key:f i^^^g i=0∧f k^^^g k=0:=by
   rcases Nat.lt_or_gt_of_ne hik with hlt|hgt
   ·exact two_zero (d:=fun c=>f c^^^g c) hP hQ hlt (by omega) hn hz
   ·exact(two_zero (d:=fun c=>f c^^^g c) hP hQ hgt (by omega) hn fun c hc h1 h2=>hz c hc h2 h1).symm
  intro c hc
  by_cases e:c=i
  ·subst e; exact out c key.1
  ·by_cases e2:c=k
   ·subst e2; exact out c key.2
   ·exact h c hc (by simp; omega)
theorem timesL_get (l:Txt) (b:UInt8) (j:Nat):(timesL l b).getD j 0=mulG (l.getD j 0) b:=by
 unfold timesL
 simp only[List.getD_eq_getElem?_getD,List.getElem?_map]
 cases l[j]? with
 |none=>simp[zero_mulG]
 |some x=>rfl
theorem sAcc_col (L:List Txt) (j:Nat):∀m,(sAcc L m).getD j 0=sx (col L j) m
 |0=>by simp[sAcc,sx]
 |m+1=>by simp only[sAcc,sx,xorT_get,sAcc_col L j m]; rfl
theorem qAcc_col (L:List Txt) (j:Nat):∀m,(qAcc L m).getD j 0=sx (wq (col L j)) m
 |0=>by simp[qAcc,sx]
 |m+1=>by simp only[qAcc,sx,xorT_get,qAcc_col L j m,timesL_get,mulG_ex]; rfl
theorem col_take (L:List Txt) (j n:Nat):∀c,c<n→col (L.take n) j c=col L j c:=fun c hc=>by unfold col; rw[take_get _ _ _ hc]
theorem sumT_col {L:List Txt}{n:Nat}(h:n≤L.length) (j:Nat):(sumT (L.take n)).getD j 0=sx (col L j) n:=by
 unfold sumT
 rw[sAcc_col,List.length_take,Nat.min_eq_left h]
 exact sx_congr fun c hc=>col_take L j n c hc
theorem qT_col {L:List Txt}{n:Nat}(h:n≤L.length) (j:Nat):(qT (L.take n)).getD j 0=sx (wq (col L j)) n:=by
 unfold qT
 rw[qAcc_col,List.length_take,Nat.min_eq_left h]
 exact sx_congr fun c hc=>congrArg (xp c) (col_take L j n c hc)
theorem synP_col (L:List Txt) (j:Nat):(synP L).getD j 0=sx (col L j) (L.length-2)^^^col L j (L.length-2):=by
 unfold synP; rw[xorT_get,sumT_col (by omega)]; rfl
theorem synQ_col (L:List Txt) (j:Nat):(synQ L).getD j 0=sx (wq (col L j)) (L.length-2)^^^col L j (L.length-1):=by
 unfold synQ; rw[xorT_get,qT_col (by omega)]; rfl
theorem col_set {L:List Txt}{i:Nat}(hi:i<L.length) (x:Txt) (j c:Nat):col (L.set i x) j c=if i=c then x.getD j 0 else col L j c:=by
 unfold col
 rw[getD_set _ _ _ _ hi]
 split<;>rfl
theorem AllLen.set {L:List Txt}{m:Nat}(h:AllLen L m){x:Txt}(hx:x.length=m) (i:Nat):AllLen (L.set i x) m:=fun j hj=>by
 rw[List.length_set]at hj
 by_cases hi:i<L.length
 ·rw[getD_set _ _ _ _ hi]
  split
  ·exact hx
  ·exact h j hj
 ·rw[List.set_eq_of_length_le (by omega)]; exact h j hj
theorem sumT_all {L:List Txt}{m n:Nat}(h:AllLen L m) (h0:0<n) (hn:n≤L.length):(sumT (L.take n)).length=m:=by
 refine sAcc_all ?_ _ (by rw[List.length_take]; omega) (Nat.le_refl _)
 intro j hj
 rw[List.length_take]at hj
 rw[take_get _ _ _ (by omega)]
 exact h j (by omega)
theorem qT_all {L:List Txt}{m n:Nat}(h:AllLen L m) (h0:0<n) (hn:n≤L.length):(qT (L.take n)).length=m:=by
 refine qAcc_all ?_ _ (by rw[List.length_take]; omega) (Nat.le_refl _)
 intro j hj
 rw[List.length_take]at hj
 rw[take_get _ _ _ (by omega)]
 exact h j (by omega)
theorem synP_all {L:List Txt}{m:Nat}(h:AllLen L m) (h3:3≤L.length):(synP L).length=m:=by
 unfold synP
 rw[xorT_len,sumT_all h (by omega) (by omega),h _ (by omega)]; omega
theorem synQ_all {L:List Txt}{m:Nat}(h:AllLen L m) (h3:3≤L.length):(synQ L).length=m:=by
 unfold synQ
 rw[xorT_len,qT_all h (by omega) (by omega),h _ (by omega)]; omega
theorem row_ext {A B:List Txt}{m:Nat}(hl:A.length=B.length) (ha:AllLen A m) (hb:AllLen B m) (h:∀j,j<m→∀c,c<A.length→col A j c=col B j c):A=B:=
 list_ext hl fun c hc=>ext_getD (by rw[ha c hc,hb c (by omega)]) fun j hj=>h j (by rw[←ha c hc]; exact hj) c hc
theorem exI_pos {i:Nat}(h:i<255):exI (i:Int)=ex i:=by unfold exI; congr 1; omega
theorem exI_back {i:Nat}(h:i<255) (x:UInt8):xp i (mulG x (exI (0-(i:Int))))=x:=by
 unfold exI
 rw[mulG_ex,←xp_add]
 by_cases h0:i=0
 ·subst h0; rfl
 ·rw[show i+((0-(i:Int))%255).toNat=255 by omega,xp_255]
theorem mulG_back {s:UInt8}(hs:s≠0) (x:UInt8):mulG (mulG x (invG s)) s=x:=by
 have e:mulG (mulG x s) (invG s)=x:=mulG_inv hs x
 unfold invG at e⊢
 rw[mulG_ex]at e⊢
 rw[mulG_xp _ hs]at e⊢
 rw[xp_comm]; exact e
def PAll (L:List Txt):Prop:=∀j,PRel (col L j) (L.length-2)
def QAll (L:List Txt):Prop:=∀j,QRel (col L j) (L.length-2)
theorem col_out {L:List Txt}{i c:Nat}(hi:i<L.length) (h:c≠i) (x:Txt) (j:Nat):col (L.set i x) j c=col L j c:=by rw[col_set hi,if_neg (Ne.symm h)]
theorem col_at {L:List Txt}{i:Nat}(hi:i<L.length) (x:Txt) (j:Nat):col (L.set i x) j i=x.getD j 0:=by rw[col_set hi,if_pos rfl]
theorem sx_set {L:List Txt}{i n:Nat}(hi:i<n) (hn:n≤L.length) (x:Txt) (j:Nat):sx (col (L.set i x) j) n=sx (col L j) n^^^(x.getD j 0^^^col L j i):=by
 have h:=sx_xor (col (L.set i x) j) (col L j) n
 rw[sx_one (f:=fun c=>col (L.set i x) j c^^^col L j c) hi fun c hc h1=>by rw[col_out (by omega) h1,UInt8.xor_self],col_at (by omega)]at h
 rw[h,UInt8.xor_comm,UInt8.xor_assoc,UInt8.xor_self,UInt8.xor_zero]
theorem sq_set {L:List Txt}{i n:Nat}(hi:i<n) (hn:n≤L.length) (x:Txt) (j:Nat):sx (wq (col (L.set i x) j)) n=sx (wq (col L j)) n^^^xp i (x.getD j 0^^^col L j i):=by
 have h:=sx_xor (wq (col (L.set i x) j)) (wq (col L j)) n
 rw[sx_one (f:=fun c=>wq (col (L.set i x) j) c^^^wq (col L j) c) hi fun c hc h1=>by unfold wq; rw[col_out (by omega) h1,UInt8.xor_self]]at h
 unfold wq at h⊢
 rw[col_at (by omega),←xp_xor]at h
 rw[h,UInt8.xor_comm,UInt8.xor_assoc,UInt8.xor_self,UInt8.xor_zero]
theorem byPL_P {L:List Txt}{i:Nat}(h:i<L.length-2):PAll (byPL L i):=fun j=>by
 unfold PRel byPL
 rw[List.length_set,sx_set h (by omega),col_out (by omega) (by omega),xorT_get,synP_col]
 show _=_^^^((col L j i^^^_)^^^col L j i)
 rw[UInt8.xor_comm (col L j i),UInt8.xor_assoc _ (col L j i),UInt8.xor_self,UInt8.xor_zero,←UInt8.xor_assoc,UInt8.xor_self,UInt8.zero_xor]
theorem byQL_Q {L:List Txt}{i:Nat}(h:i<L.length-2) (h255:i<255):QAll (byQL L i):=fun j=>by
 unfold QRel byQL
 rw[List.length_set,sq_set h (by omega),col_out (by omega) (by omega),xorT_get,timesL_get,synQ_col]
 show _=_^^^xp i ((col L j i^^^_)^^^col L j i)
 rw[UInt8.xor_comm (col L j i),UInt8.xor_assoc _ (col L j i),UInt8.xor_self,UInt8.xor_zero,exI_back h255,←UInt8.xor_assoc,UInt8.xor_self,UInt8.zero_xor]
 rw[show L.length-2+1=L.length-1 by omega]
theorem parP_P {L:List Txt}(h:2≤L.length):PAll (rparP L):=fun j=>by
 unfold PRel
 rw[parP_len]
 unfold rparP
 rw[col_at (by omega),sumT_col (by omega)]
 exact sx_congr fun c hc=>(col_out (by omega) (by omega) _ _).symm
theorem parP_Q {L:List Txt}(h:2≤L.length) (hQ:QAll L):QAll (rparP L):=fun j=>by
 have:=hQ j
 unfold QRel at this⊢
 rw[parP_len]
 unfold rparP
 rw[col_out (by omega) (by omega),this]
 exact sx_congr fun c hc=>congrArg (xp c) (col_out (by omega) (by omega) _ _).symm
theorem parQ_len (L:List Txt):(rparQ L).length=L.length:=List.length_set
theorem parQ_Q {L:List Txt}(h:2≤L.length):QAll (rparQ L):=fun j=>by
 unfold QRel
 rw[parQ_len]
 unfold rparQ
 rw[show L.length-2+1=L.length-1 by omega,col_at (by omega),qT_col (by omega)]
 exact sx_congr fun c hc=>congrArg (xp c) (col_out (by omega) (by omega) _ _).symm
theorem parQ_P {L:List Txt}(h:2≤L.length) (hP:PAll L):PAll (rparQ L):=fun j=>by
 have:=hP j
 unfold PRel at this⊢
 rw[parQ_len]
 unfold rparQ
 rw[col_out (by omega) (by omega),this]
 exact sx_congr fun c hc=>(col_out (by omega) (by omega) _ _).symm
theorem bothL_len (L:List Txt) (i k:Nat):(bothL L i k).length=L.length:=by simp[bothL]
theorem bothL_PQ {L:List Txt}{i k:Nat}(hik:i<k) (hk:k<L.length-2) (h255:k<255) (hi0:∀j,col L j i=0) (hk0:∀j,col L j k=0):PAll (bothL L i k)∧QAll (bothL L i k):=by
 have hs:ex i^^^ex k≠0:=ex_sum_ne (by omega) h255 (by omega)
 have hB:∀j,xp i ((bothK L i k).getD j 0)^^^xp k ((bothK L i k).getD j 0)=(synQ L).getD j 0^^^xp i ((synP L).getD j 0):=fun j=>by
  unfold bothK
  rw[exI_pos (by omega),exI_pos h255,invF_ne hs,timesL_get,xorT_get,timesL_get,mulG_ex]
  generalize (synQ L).getD j 0^^^xp i ((synP L).getD j 0)=u
  have:=mulG_back hs u
  rw[mulG_xor',mulG_ex,mulG_ex]at this
  exact this
 refine⟨fun j=>?_,fun j=>?_⟩
 ·unfold PRel
  rw[bothL_len]
  unfold bothL
  rw[col_out (by simp; omega) (by omega),col_out (by omega) (by omega),sx_set (by omega) (by simp),sx_set hk (by omega),col_out (by omega) (by omega),hi0,hk0,xorT_get,UInt8.xor_zero,UInt8.xor_zero,synP_col]
  generalize (bothK L i k).getD j 0=b
  rw[UInt8.xor_comm _ b,UInt8.xor_comm _ b,UInt8.xor_assoc,←UInt8.xor_assoc _ b,UInt8.xor_comm _ b,UInt8.xor_assoc b,←UInt8.xor_assoc b,UInt8.xor_self,UInt8.zero_xor,←UInt8.xor_assoc,UInt8.xor_self,UInt8.zero_xor]
 ·unfold QRel
  rw[bothL_len]
  unfold bothL
  rw[col_out (by simp; omega) (by omega),col_out (by omega) (by omega),sq_set (by omega) (by simp),sq_set hk (by omega),col_out (by omega) (by omega),hi0,hk0,xorT_get,UInt8.xor_zero,UInt8.xor_zero,xp_xor]
  have h1:=hB j
  rw[show L.length-2+1=L.length-1 by omega]
  generalize (bothK L i k).getD j 0=b at h1
  rw[UInt8.xor_assoc,UInt8.xor_comm (xp i _),←UInt8.xor_assoc (xp k b),UInt8.xor_comm (xp k b),h1,synQ_col,UInt8.xor_assoc _ (xp i _),UInt8.xor_self,UInt8.xor_zero,←UInt8.xor_assoc,UInt8.xor_self,UInt8.zero_xor]
structure FillR (R:List Txt) (m:Nat) (l:List Int) (F:List Txt):Prop where
 len:F.length=R.length
 all:AllLen F m
 out:∀c:Nat,(c:Int)∉l→F.getD c []=R.getD c []
 fil:∀j,Filled (R.length-2) l (col F j)
theorem lastLen_eq {L:List Txt}{l:List Int}{m:Nat}(h:∀j,j<L.length→(j:Int)∉l→(L.getD j []).length=m):∀i,i≤L.length→(∃j,j<i∧(j:Int)∉l)→lastLen L l i=m
 |0,_,⟨j,hj,_⟩=>absurd hj (by omega)
 |i+1,hi,⟨j,hj,hn⟩=>by
  simp only[lastLen]
  by_cases e:(i:Int)∈l
  ·rw[if_pos e]
   refine lastLen_eq h i (by omega) ⟨j,?_,hn⟩
   have:j≠i:=fun e'=>hn (e'▸e)
   omega
  ·rw[if_neg e,h i (by omega) e]
theorem col_zeros {L:List Txt}{i:Nat}(hi:i<L.length) (m j:Nat):col (L.set i (List.replicate m 0)) j i=0:=by
 rw[col_at hi]
 simp only[List.getD_eq_getElem?_getD]
 by_cases h:j<m
 ·simp[h]
 ·rw[List.getElem?_eq_none (by simp; omega)]; rfl
theorem get_out {L:List Txt}{i c:Nat}(h:c≠i) (x:Txt):(L.set i x).getD c []=L.getD c []:=by
 simp[List.getD,List.getElem?_set,Ne.symm h]
theorem parP_all {L:List Txt}{m:Nat}(h:AllLen L m) (h3:3≤L.length):AllLen (rparP L) m:=h.set (sumT_all h (by omega) (by omega)) _
theorem parQ_all {L:List Txt}{m:Nat}(h:AllLen L m) (h3:3≤L.length):AllLen (rparQ L) m:=h.set (qT_all h (by omega) (by omega)) _
theorem byPL_all {L:List Txt}{m i:Nat}(h:AllLen L m) (h3:3≤L.length) (hi:i<L.length):AllLen (byPL L i) m:=h.set (by rw[xorT_len,h i hi,synP_all h h3]; omega) _
theorem byQL_all {L:List Txt}{m i:Nat}(h:AllLen L m) (h3:3≤L.length) (hi:i<L.length):AllLen (byQL L i) m:=h.set (by rw[xorT_len,timesL_len,h i hi,synQ_all h h3]; omega) _
theorem bothL_all {L:List Txt}{m i k:Nat}(h:AllLen L m) (h3:3≤L.length):AllLen (bothL L i k) m:=by
 have e:(bothK L i k).length=m:=by unfold bothK; rw[timesL_len,xorT_len,timesL_len,synP_all h h3,synQ_all h h3]; omega
 exact(h.set e _).set (by rw[xorT_len,e,synP_all h h3]; omega) _
theorem kindF_data {n:Nat}{x:Int}(h:x<n):kindF n x=1:=if_pos h
theorem kindF_p {n:Nat}:kindF n (n:Int)=2:=by unfold kindF; rw[if_neg (by omega),if_pos rfl]
theorem kindF_q {n:Nat}:kindF n ((n+1:Nat):Int)=3:=by unfold kindF; rw[if_neg (by omega),if_neg (by omega)]
theorem fill_one {R:List Txt}{m i:Nat}(h4:4≤R.length) (h10:R.length≤10) (hi:i<R.length) (hm:∀j,j<R.length→(j:Int)∉[(i:Int)]→(R.getD j []).length=m):FillR R m [(i:Int)] (fillS R [(i:Int)]):=by
 have hz:lastLen R [(i:Int)] R.length=m:=lastLen_eq hm _ (Nat.le_refl _) (by
  by_cases e:i=0
  ·exact⟨1,by omega,by simp; omega⟩
  ·exact⟨0,by omega,by simp; omega⟩)
 unfold fillS
 rw[hz]
 have hZ:zerL R [(i:Int)] m [(i:Int)].length=R.set i (List.replicate m 0):=rfl
 rw[hZ]
 generalize hZZ:R.set i (List.replicate m 0)=Z
 have hl:Z.length=R.length:=by rw[←hZZ]; simp
 have hZm:AllLen Z m:=fun j hj=>by
  rw[hl]at hj
  rw[←hZZ,getD_set _ _ _ _ hi]
  split
  ·simp
  ·exact hm j hj (by simp; omega)
 have hZo:∀c,c≠i→Z.getD c []=R.getD c []:=fun c hc=>by rw[←hZZ]; exact get_out hc _
 have k1:kindA (R.length-2) [(i:Int)] 1 [(i:Int)].length=0:=by unfold kindA; rw[if_neg (by simp)]
 have k0:kindA (R.length-2) [(i:Int)] 0 [(i:Int)].length=kindF (R.length-2) (i:Int):=by unfold kindA; rw[if_pos (by simp)]; rfl
 rw[k0,k1]
 show FillR R m _ (fillK _ 0 Z i 0)
 rcases Nat.lt_trichotomy i (R.length-2) with h|h|h
 ·rw[kindF_data (by omega)]
  show FillR R m _ (byPL Z i)
  refine⟨by rw[byPL_len,hl],byPL_all hZm (by omega) (by omega),fun c hc=>?_,fun j=>⟨fun h2=>absurd h2 (by simp),fun i' e=>?_⟩⟩
  ·have hci:c≠i:=fun e=>hc (by simp[e])
   unfold byPL
   rw[get_out hci,hZo c hci]
  ·obtain rfl:i=i':=by have:=(List.cons.inj e).1; omega
   have:=byPL_P (L:=Z) (i:=i) (by omega) j
   rw[byPL_len,hl]at this
   exact⟨fun _=>this,fun e=>absurd e (by omega)⟩
 ·have:kindF (R.length-2) (i:Int)=2:=by rw[h]; exact kindF_p
  rw[this]
  show FillR R m _ (rparP Z)
  refine⟨by rw[parP_len,hl],parP_all hZm (by omega),fun c hc=>?_,fun j=>⟨fun h2=>absurd h2 (by simp),fun i' e=>?_⟩⟩
  ·have hci:c≠i:=fun e=>hc (by simp[e])
   unfold rparP
   rw[get_out (by omega),hZo c hci]
  ·obtain rfl:i=i':=by have:=(List.cons.inj e).1; omega
   have:=parP_P (L:=Z) (by omega) j
   rw[parP_len,hl]at this
   exact⟨fun _=>this,fun e=>absurd e (by omega)⟩
 ·have:kindF (R.length-2) (i:Int)=3:=by rw[show i=R.length-2+1 by omega]; exact kindF_q
  rw[this]
  show FillR R m _ (rparQ Z)
  refine⟨by rw[parQ_len,hl],parQ_all hZm (by omega),fun c hc=>?_,fun j=>⟨fun h2=>absurd h2 (by simp),fun i' e=>?_⟩⟩
  ·have hci:c≠i:=fun e=>hc (by simp[e])
   unfold rparQ
   rw[get_out (by omega),hZo c hci]
  ·obtain rfl:i=i':=by have:=(List.cons.inj e).1; omega
   have:=parQ_Q (L:=Z) (by omega) j
   rw[parQ_len,hl]at this
   exact⟨fun e=>absurd e (by omega),fun _=>this⟩
theorem fill_two {R:List Txt}{m i k:Nat}(h4:4≤R.length) (h10:R.length≤10) (hik:i<k) (hk:k<R.length) (hm:∀j,j<R.length→(j:Int)∉[(i:Int),(k:Int)]→(R.getD j []).length=m):FillR R m [(i:Int),(k:Int)] (fillS R [(i:Int),(k:Int)]):=by
 have hz:lastLen R [(i:Int),(k:Int)] R.length=m:=lastLen_eq hm _ (Nat.le_refl _) (by
  by_cases e:i=0
  ·by_cases e2:k=1
   ·exact⟨2,by omega,by simp; omega⟩
   ·exact⟨1,by omega,by simp; omega⟩
  ·exact⟨0,by omega,by simp; omega⟩)
 unfold fillS
 rw[hz]
 have hZ:zerL R [(i:Int),(k:Int)] m [(i:Int),(k:Int)].length=(R.set i (List.replicate m 0)).set k (List.replicate m 0):=rfl
 rw[hZ]
 generalize hZZ:(R.set i (List.replicate m 0)).set k (List.replicate m 0)=Z
 have hl:Z.length=R.length:=by rw[←hZZ]; simp
 have hZm:AllLen Z m:=fun j hj=>by
  rw[hl]at hj
  rw[←hZZ,getD_set _ _ _ _ (by simp; omega)]
  split
  ·simp
  ·rw[getD_set _ _ _ _ (by omega)]
   split
   ·simp
   ·exact hm j hj (by simp; omega)
 have hZo:∀c,c≠i→c≠k→Z.getD c []=R.getD c []:=fun c hc hc2=>by rw[←hZZ,get_out hc2,get_out hc]
 have hZk:∀j,col Z j k=0:=fun j=>by rw[←hZZ]; exact col_zeros (by simp; omega) m j
 have hZi:∀j,col Z j i=0:=fun j=>by
  rw[←hZZ,col_out (by simp; omega) (by omega)]
  exact col_zeros (by omega) m j
 have k1:kindA (R.length-2) [(i:Int),(k:Int)] 1 [(i:Int),(k:Int)].length=kindF (R.length-2) (k:Int):=by unfold kindA; rw[if_pos (by simp)]; rfl
 have k0:kindA (R.length-2) [(i:Int),(k:Int)] 0 [(i:Int),(k:Int)].length=kindF (R.length-2) (i:Int):=by unfold kindA; rw[if_pos (by simp)]; rfl
 rw[k0,k1]
 show FillR R m _ (fillK _ _ Z i k)
 have fin:∀F:List Txt,F.length=R.length→AllLen F m→(∀c,c≠i→c≠k→F.getD c []=Z.getD c [])→PAll F→QAll F→FillR R m [(i:Int),(k:Int)] F:=fun F h1 h2 h3 h5 h6=>by
  refine⟨h1,h2,fun c hc=>?_,fun j=>?_⟩
  ·have hci:c≠i∧c≠k:=by simp at hc; omega
   rw[h3 c hci.1 hci.2,hZo c hci.1 hci.2]
  ·have a:=h5 j
   have b:=h6 j
   rw[h1]at a b
   exact Filled.good a b _
 rcases Nat.lt_trichotomy k (R.length-2) with h|h|h
 ·rw[kindF_data (show(i:Int)<((R.length-2:Nat):Int) by omega),kindF_data (show(k:Int)<((R.length-2:Nat):Int) by omega)]
  show FillR R m _ (bothL Z i k)
  obtain⟨a,b⟩:=bothL_PQ (L:=Z) hik (by omega) (by omega) hZi hZk
  refine fin _ (by rw[bothL_len,hl]) (bothL_all hZm (by omega)) (fun c hc hc2=>?_) a b
  unfold bothL
  rw[get_out hc,get_out hc2]
 ·have e2:kindF (R.length-2) (k:Int)=2:=by rw[h]; exact kindF_p
  rw[kindF_data (show(i:Int)<((R.length-2:Nat):Int) by omega),e2]
  show FillR R m _ (rparP (byQL Z i))
  have hbl:(byQL Z i).length=R.length:=by rw[byQL_len,hl]
  refine fin _ (by rw[parP_len,hbl]) (parP_all (byQL_all hZm (by omega) (by omega)) (by omega)) (fun c hc hc2=>?_) (parP_P (by omega)) (parP_Q (by omega) (byQL_Q (by omega) (by omega)))
  unfold rparP
  rw[get_out (by omega)]
  unfold byQL
  rw[get_out hc]
 ·have e2:kindF (R.length-2) (k:Int)=3:=by rw[show k=R.length-2+1 by omega]; exact kindF_q
  rw[e2]
  by_cases hi:i=R.length-2
  ·have e1:kindF (R.length-2) (i:Int)=2:=by rw[hi]; exact kindF_p
   rw[e1]
   show FillR R m _ (rparQ (rparP Z))
   have hbl:(rparP Z).length=R.length:=by rw[parP_len,hl]
   refine fin _ (by rw[parQ_len,hbl]) (parQ_all (parP_all hZm (by omega)) (by omega)) (fun c hc hc2=>?_) (parQ_P (by omega) (parP_P (by omega))) (parQ_Q (by omega))
   unfold rparQ
   rw[get_out (by omega)]
   unfold rparP
   rw[get_out (by omega)]
  ·rw[kindF_data (show(i:Int)<((R.length-2:Nat):Int) by omega)]
   show FillR R m _ (rparQ (byPL Z i))
   have hbl:(byPL Z i).length=R.length:=by rw[byPL_len,hl]
   refine fin _ (by rw[parQ_len,hbl]) (parQ_all (byPL_all hZm (by omega) (by omega)) (by omega)) (fun c hc hc2=>?_) (parQ_P (by omega) (byPL_P (by omega))) (parQ_Q (by omega))
   unfold rparQ
   rw[get_out (by omega)]
   unfold byPL
   rw[get_out hc]
theorem fill_col {R:List Txt}{lost:List Int}{m:Nat}(hO:OkM R lost) (h2:lost.length≤2) (hm:∀j,j<R.length→(j:Int)∉lost→(R.getD j []).length=m):FillR R m lost (fillF R lost):=by
 have h4:=hO.n4
 have h10:=hO.n10
 match lost,h2,hO,hm with
 |[],_,_,hm=>
  rw[fill_none]
  exact⟨rfl,fun j hj=>hm j hj (by simp),fun c _=>rfl,fun j=>⟨fun h=>absurd h (by simp),fun i h=>absurd h (by simp)⟩⟩
 |[x],_,hO,hm=>
  obtain⟨h0,h1⟩:=hO.rng x (by simp)
  obtain⟨i,rfl⟩:∃i:Nat,x=(i:Int):=⟨x.toNat,by omega⟩
  unfold fillF
  have:srt [(i:Int)]=[(i:Int)]:=by
   have hl:=srt_len [(i:Int)]
   match hq:srt [(i:Int)],hl with
   |[y],_=>
    have:y∈srt [(i:Int)]:=by rw[hq]; simp
    rw[srt_mem]at this
    simpa using this
  rw[this]
  exact fill_one h4 h10 (by omega) hm
 |[x,y],_,hO,hm=>
  obtain⟨h0,h1⟩:=hO.rng x (by simp)
  obtain⟨h2,h3⟩:=hO.rng y (by simp)
  obtain⟨i,rfl⟩:∃i:Nat,x=(i:Int):=⟨x.toNat,by omega⟩
  obtain⟨k,rfl⟩:∃k:Nat,y=(k:Int):=⟨y.toNat,by omega⟩
  have hik:i≠k:=fun e=>by have:=hO.nodup; simp[e]at this
  unfold fillF
  rcases Nat.lt_or_gt_of_ne hik with hlt|hgt
  ·rw[(srt_two (a:=(i:Int)) (b:=(k:Int)) (by omega)).1]
   exact fill_two h4 h10 hlt (by omega) hm
  ·rw[(srt_two (a:=(k:Int)) (b:=(i:Int)) (by omega)).2]
   have hF:=fill_two (R:=R) (m:=m) h4 h10 hgt (by omega) fun j hj hn=>hm j hj (by simp at hn⊢; omega)
   exact⟨hF.len,hF.all,fun c hc=>hF.out c (by simp at hc⊢; omega),fun j=>⟨fun _=>(hF.fil j).two rfl,fun i' e=>absurd e (by simp)⟩⟩
theorem fill_back {R B:List Txt}{lost:List Int}{m:Nat}(hO:OkM B lost) (h2:lost.length≤2) (hl:B.length=R.length) (hm:AllLen R m) (ho:∀c:Nat,c<R.length→(c:Int)∉lost→B.getD c []=R.getD c []) (hF:∀j,Filled (R.length-2) lost (col R j)):fillF B lost=R:=by
 have hf:=fill_col hO h2 (m:=m) fun j hj hn=>by rw[ho j (by omega) hn]; exact hm j (by omega)
 have h4:=hO.n4
 have h10:=hO.n10
 refine row_ext (by rw[hf.len,hl]) hf.all hm fun j hj c hc=>?_
 have hfj:=hf.fil j
 rw[hl]at hfj
 refine filled_unique (n:=R.length-2) (by omega) h2 hO.nodup (fun x hx=>by have:=hO.rng x hx; omega) hfj (hF j) (fun c hc hn=>?_) c (by have:=hf.len; omega)
 unfold col
 rw[hf.out c hn,ho c (by omega) hn]
structure GoodL (L:List Txt) (m:Nat):Prop where
 n4:4≤L.length
 n10:L.length≤10
 all:AllLen L m
 rel:∀j,j<m→PRel (col L j) (L.length-2)∧QRel (col L j) (L.length-2)
theorem GoodL.filled {L:List Txt}{m:Nat}(h:GoodL L m) (lost:List Int) (j:Nat):Filled (L.length-2) lost (col L j):=by
 by_cases hj:j<m
 ·exact Filled.good (h.rel j hj).1 (h.rel j hj).2 _
 ·have hz:∀c,col L j c=0:=fun c=>by
   unfold col
   by_cases hc:c<L.length
   ·rw[List.getD_eq_getElem?_getD,List.getElem?_eq_none (by rw[h.all c hc]; omega)]; rfl
   ·rw[List.getD_eq_getElem?_getD (l:=L),List.getElem?_eq_none (by omega)]; rfl
  refine Filled.good ?_ ?_ _
  ·unfold PRel
   rw[hz,sx_zero fun c _=>hz c]
  ·unfold QRel
   rw[hz,sx_zero fun c _=>wq_zero (hz c)]
def bitF (b:UInt8) (i:Nat):Bool:=bits2 .and .i64 (Int.fdiv (b.toNat:Int) (2 ^ i)) 1==1
def mAcc (a b:UInt8):Nat→UInt8
 |0=>0
 |i+1=>if bitF b i then mAcc a b i^^^xp i a else mAcc a b i
def bAcc (b:UInt8):Nat→UInt8
 |0=>0
 |i+1=>if bitF b i then bAcc b i^^^ex i else bAcc b i
theorem bAcc_eight (b:UInt8):bAcc b 8=b:=by
 have h:∀n:Fin 256,bAcc (UInt8.ofNat n.1) 8=UInt8.ofNat n.1:=by decide +kernel
 have:=h ⟨b.toNat,b.toNat_lt⟩
 simpa using this
theorem mAcc_eq (a b:UInt8):∀i,mulG a (bAcc b i)=mAcc a b i
 |0=>mulG_zero a
 |i+1=>by
  simp only[bAcc,mAcc]
  by_cases h:bitF b i=true
  ·rw[if_pos h,if_pos h,mulG_xor',mulG_ex,mAcc_eq a b i]
  ·rw[if_neg h,if_neg h,mAcc_eq a b i]
theorem i64_xor (x y:UInt8):bits2 .xor .i64 (x.toNat:Int) (y.toNat:Int)=((x^^^y).toNat:Int):=by
 have hx:=x.toNat_lt; have hy:=y.toNat_lt
 unfold bits2
 simp only[IntKind.bits]
 rw[show BitVec.ofInt 64 ((x.toNat:Nat):Int)=BitVec.ofNat 64 x.toNat by simp,show BitVec.ofInt 64 ((y.toNat:Nat):Int)=BitVec.ofNat 64 y.toNat by simp]
 have:((BitVec.ofNat 64 x.toNat^^^BitVec.ofNat 64 y.toNat).toNat)=(x^^^y).toNat:=by
  rw[BitVec.toNat_xor,BitVec.toNat_ofNat,BitVec.toNat_ofNat,UInt8.toNat_xor,Nat.mod_eq_of_lt (by omega),Nat.mod_eq_of_lt (by omega)]
 have h2:=(x^^^y).toNat_lt
 show IntKind.i64.wrap (((BitVec.ofNat 64 x.toNat^^^BitVec.ofNat 64 y.toNat).toNat:Nat):Int)=_
 rw[this,wrap64 _ (by omega) (by omega)]
theorem mulR_spec (a b:UInt8) (w:World):Ret Tp 222 #[.int .u8 (a.toNat:Int),.int .u8 (b.toNat:Int)] w (.int .u8 ((mulG a b).toNat:Int)):=by
 refine ret_of (revetmentref01_Mul_calls ?_)
 unfold revetmentref01_Mul
 have ha:=a.toNat_lt
 have hb:=b.toNat_lt
 rw[wrap64 _ (by omega) (by omega),wrap64 _ (by omega) (by omega)]
 have step:∀y:UInt8,(256≤IntKind.i64.wrap ((y.toNat:Int)*2 ^ 1)→bits2 .xor .i64 (IntKind.i64.wrap ((y.toNat:Int)*2 ^ 1)) 285=((xt y).toNat:Int))∧(¬256≤IntKind.i64.wrap ((y.toNat:Int)*2 ^ 1)→IntKind.i64.wrap ((y.toNat:Int)*2 ^ 1)=((xt y).toNat:Int)):=by
  have h:∀n:Fin 256,(256≤IntKind.i64.wrap (((UInt8.ofNat n.1).toNat:Int)*2 ^ 1)→bits2 .xor .i64 (IntKind.i64.wrap (((UInt8.ofNat n.1).toNat:Int)*2 ^ 1)) 285=((xt (UInt8.ofNat n.1)).toNat:Int))∧(¬256≤IntKind.i64.wrap (((UInt8.ofNat n.1).toNat:Int)*2 ^ 1)→IntKind.i64.wrap (((UInt8.ofNat n.1).toNat:Int)*2 ^ 1)=((xt (UInt8.ofNat n.1)).toNat:Int)):=by decide +kernel
  intro y
  have:=h ⟨y.toNat,y.toNat_lt⟩
  simpa using this
 refine⟨fun vs w'=>w'=w∧∃i:Nat,vs=[.int .i64 ((mAcc a b i).toNat:Int),.int .i64 ((xp i a).toNat:Int),.int .i64 (i:Int)]∧i≤8,fun vs _=>match vs with|[_,_,.int _ i]=>(8-i).toNat|_=>0,⟨rfl,0,rfl,by omega⟩,?_⟩
 rintro vs w1 ⟨rfl,i,rfl,hi⟩
 refine⟨_,_,_,rfl,dec_t fun hlt=>?_,dec_f fun hge=>?_⟩
 ·have hlt:i<8:=by omega
  refine Join.intro fun J hJ=>?_
  have fin:J [.int .i64 ((mAcc a b (i+1)).toNat:Int)] w1:=by
   refine hJ _ _ ⟨_,rfl,?_⟩
   have e1:IntKind.i64.wrap ((i:Int)+1)=((i+1:Nat):Int):=by rw[wrap64 _ (by omega) (by omega)]; rfl
   rw[e1]
   have dn:((8:Int)-((i+1:Nat):Int)).toNat<((8:Int)-(i:Int)).toNat:=by omega
   refine⟨dec_t fun h=>⟨⟨rfl,i+1,?_,by omega⟩,dn⟩,dec_f fun h=>⟨⟨rfl,i+1,?_,by omega⟩,dn⟩⟩
   ·rw[(step (xp i a)).1 h]; rfl
   ·rw[(step (xp i a)).2 (by omega)]; rfl
  have em:min ((i:Int)).toNat 64=i:=by omega
  rw[em]
  refine⟨by omega,fun h=>?_,fun h=>?_⟩
  ·have hb:bitF b i=true:=h
   rw[i64_xor]
   have:mAcc a b (i+1)=mAcc a b i^^^xp i a:=if_pos hb
   rw[←this]; exact fin
  ·have hb:bitF b i=false:=h
   have:mAcc a b (i+1)=mAcc a b i:=if_neg (by rw[hb]; simp)
   rw[←this]; exact fin
 ·have hie:i=8:=by omega
  subst hie
  refine⟨?_,Ext.refl _⟩
  have h2:=(mAcc a b 8).toNat_lt
  rw[wrap8,←mAcc_eq,bAcc_eight]
  have h3:=(mulG a b).toNat_lt
  congr 1
  omega
theorem two_ex:(2:UInt8)=ex 1:=by decide
theorem powR_spec (n:Int) (w:World):Ret Tp 223 #[.int .u8 2,.int .i64 n] w (.int .u8 ((exI n).toNat:Int)):=by
 refine ret_of (revetmentref01_Pow_calls ?_)
 unfold revetmentref01_Pow
 refine⟨beq_t fun h0=>⟨by rw[h0]; rfl,Ext.refl w⟩,beq_f fun h0=>no rfl (Join.intro fun J hJ=>?_)⟩
 have main:J [.int .i64 (((n%255).toNat:Nat):Int)] w:=by
  refine hJ _ _ ⟨_,rfl,?_⟩
  unfold exI
  have h255:(n%255).toNat<255:=by omega
  generalize (n%255).toNat=k at h255
  refine⟨fun vs w'=>Ext w w'∧∃i:Nat,vs=[.int .u8 ((ex i).toNat:Int),.int .i64 (i:Int)]∧i≤k,fun vs _=>match vs with|[_,.int _ i]=>(k-i).toNat|_=>0,⟨Ext.refl w,0,rfl,by omega⟩,?_⟩
  rintro vs w1 ⟨hx,i,rfl,hi⟩
  refine⟨_,_,rfl,dec_t fun hlt=>?_,dec_f fun hge=>?_⟩
  ·refine(mulR_spec (ex i) 2 w1).mono fun e w2 ⟨he,hx2⟩=>⟨_,he,⟨hx.trans hx2,i+1,?_,by omega⟩,?_⟩
   ·rw[wrap64 _ (by omega) (by omega),two_ex,mulG_ex]; rfl
   ·show((k:Int)-IntKind.i64.wrap ((i:Int)+1)).toNat<((k:Int)-(i:Int)).toNat
    rw[wrap64 _ (by omega) (by omega)]; omega
  ·have hie:i=k:=by omega
   subst hie
   exact⟨rfl,hx⟩
 have hm:n%255=if Int.tmod n 255<0 then Int.tmod n 255+255 else Int.tmod n 255:=by
  rcases Int.lt_or_le n 0 with h|h
  ·obtain⟨m,rfl⟩:∃m:Int,n=-m:=⟨-n,by omega⟩
   rw[Int.neg_tmod,Int.tmod_eq_emod_of_nonneg (a:=m) (by omega)]
   split<;>omega
  ·rw[Int.tmod_eq_emod_of_nonneg h,if_neg (by omega)]
 have hlo:=tmod255_rng n
 refine⟨dec_t fun h=>?_,dec_f fun h=>?_⟩
 ·rw[if_pos h]at hm
  rw[wrap64 _ (by omega) (by omega)]
  have:Int.tmod n 255+255=(((n%255).toNat:Nat):Int):=by omega
  rw[this]; exact main
 ·rw[if_neg h]at hm
  have:Int.tmod n 255=(((n%255).toNat:Nat):Int):=by omega
  rw[this]; exact main
theorem expR_spec (n:Int) (w:World):Ret Tp 186 #[.int .i64 n] w (.int .u8 ((exI n).toNat:Int)):=by
 refine ret_of (revetmentref01_Exp_calls ?_)
 unfold revetmentref01_Exp
 exact(powR_spec n w).mono fun e w1 ⟨he,hx⟩=>⟨_,he,rfl,hx⟩
theorem bvals_next {X:List UInt8}{i:Nat}{x:UInt8}(h:X[i]?=some x):bvals (X.take i)++[.int .u8 (x.toNat:Int)]=bvals (X.take (i+1)):=by
 rw[List.take_add_one,h,←bvals_append]; rfl
theorem timesR_spec (l:Txt) (by_:UInt8) (hs:l.length≤1000000) (w:World):Ret Tp 185 #[.string (strB l),.int .u8 (by_.toNat:Int)] w (.string (strB (timesL l by_))):=by
 refine ret_of (revetmentref01_Times_calls ?_)
 unfold revetmentref01_Times
 rw[strB_size]
 refine Alloc.t (T.nil w) fun k0 w1 h1=>?_
 have h1:T [] w w1 [rowP 5 1 (some k0) 0 0 (bvals ((timesL l by_).take 0))]:=blk_row h1 rfl rfl (by decide)
 refine⟨fun vs w'=>∃(i:Nat) (g:Option Nat) (cap:Nat),vs=[.slice (ptr g) i cap,.int .i64 (i:Int)]∧i≤l.length∧T [] w w' [rowP 5 1 g i cap (bvals ((timesL l by_).take i))],fun vs _=>match vs with|[_,.int _ i]=>(l.length-i).toNat|_=>0,⟨0,some k0,0,rfl,by omega,h1⟩,?_⟩
 rintro vs w2 ⟨i,g,cap,rfl,hi,h2⟩
 refine⟨_,_,_,_,rfl,dec_t fun hlt=>?_,dec_f fun hge=>?_⟩
 ·have hlt:i<l.length:=by omega
  have hix:=index_str (P:=Tp) (t:=9) (k:=.i64) (n:=(i:Int)) (s:=strB l) (w:=w2) (by kernel_rfl) (by omega) (by rw[strB_size]; omega)
  rw[Int.toNat_natCast]at hix
  refine⟨((l.getD i 0).toNat:Int),w2,hix,?_⟩
  refine(mulR_spec (l.getD i 0) by_ w2).mono fun e w3 ⟨he,hx3⟩=>⟨_,he,?_⟩
  refine push1_t (i:=Tryz.t5) (z:=.int .u8 0) (by kernel_rfl) (by kernel_rfl) (by kernel_rfl) (by kernel_rfl) (by kernel_rfl) (by kernel_rfl) (h2.quiet hx3) .head rfl (by omega) fun g2 cap2 w8 h8=>⟨⟨i+1,g2,cap2,?_,by omega,?_⟩,?_⟩
  ·rw[wrap64 _ (by omega) (by omega)]; rfl
  ·rw[bvals_next (by simp[timesL,List.getD,hlt])]at h8
   exact h8
  ·show((l.length:Int)-IntKind.i64.wrap ((i:Int)+1)).toNat<((l.length:Int)-(i:Int)).toNat
   rw[wrap64 _ (by omega) (by omega)]; omega
 ·have hie:i=l.length:=by omega
  subst hie
  rw[List.take_of_length_le (by rw[timesL_len]; omega)]at h2
  exact⟨_,w2,row_string h2 List.mem_cons_self,rfl,h2.chg.ext⟩
theorem xorT_next (a b:Txt){i:Nat}(h:i<max a.length b.length):(xorT a b)[i]?=some (a.getD i 0^^^b.getD i 0):=by
 have:=xorT_get a b i
 have hl:i<(xorT a b).length:=by rw[xorT_len]; exact h
 rw[←this]
 simp[List.getD,hl]
theorem xorR_spec (a b:Txt) (ha:a.length≤1000000) (hb:b.length≤1000000) (w:World):Ret Tp 113 #[.string (strB a),.string (strB b)] w (.string (strB (xorT a b))):=by
 refine ret_of (revetmentref01_Xor_calls ?_)
 unfold revetmentref01_Xor
 simp only[strB_size]
 refine Alloc.t (T.nil w) fun k0 w1 h1=>?_
 have h1:T [] w w1 [rowP 5 1 (some k0) 0 0 (bvals ((xorT a b).take 0))]:=blk_row h1 rfl rfl (by decide)
 generalize hN:max a.length b.length=N
 have hmx:(if (b.length:Int)>(a.length:Int) then (b.length:Int) else (a.length:Int))=(N:Int):=by split<;>omega
 refine⟨fun vs w'=>∃(i:Nat) (g:Option Nat) (cap:Nat),vs=[.slice (ptr g) i cap,.int .i64 (i:Int)]∧i≤N∧T [] w w' [rowP 5 1 g i cap (bvals ((xorT a b).take i))],fun vs _=>match vs with|[_,.int _ i]=>(N-i).toNat|_=>0,⟨0,some k0,0,rfl,by omega,h1⟩,?_⟩
 rintro vs w2 ⟨i,g,cap,rfl,hi,h2⟩
 refine⟨_,_,_,_,rfl,_,w2,max_run _ _ _ _ _ _,?_⟩
 rw[hmx]
 refine⟨dec_t fun hlt=>?_,dec_f fun hge=>?_⟩
 ·have hlt:i<N:=by omega
  refine Join.intro fun J hJ=>?_
  have main:J [.int .u8 ((a.getD i 0).toNat:Int)] w2:=by
   refine hJ _ _ ⟨_,rfl,Join.intro fun J1 hJ1=>?_⟩
   have m1:J1 [.int .u8 ((a.getD i 0^^^b.getD i 0).toNat:Int)] w2:=by
    refine hJ1 _ _ ⟨_,rfl,?_⟩
    refine push1_t (i:=Tryz.t5) (z:=.int .u8 0) (by kernel_rfl) (by kernel_rfl) (by kernel_rfl) (by kernel_rfl) (by kernel_rfl) (by kernel_rfl) h2 .head rfl (by omega) fun g2 cap2 w8 h8=>⟨⟨i+1,g2,cap2,?_,by omega,?_⟩,?_⟩
    ·rw[wrap64 _ (by omega) (by omega)]; rfl
    ·rw[bvals_next (xorT_next a b (by omega))]at h8
     exact h8
    ·show((N:Int)-IntKind.i64.wrap ((i:Int)+1)).toNat<((N:Int)-(i:Int)).toNat
     rw[wrap64 _ (by omega) (by omega)]; omega
   refine⟨dec_t fun h=>?_,dec_f fun h=>?_⟩
   ·have hix:=index_str (P:=Tp) (t:=9) (k:=.i64) (n:=(i:Int)) (s:=strB b) (w:=w2) (by kernel_rfl) (by omega) (by rw[strB_size]; omega)
    rw[Int.toNat_natCast]at hix
    refine⟨((b.getD i 0).toNat:Int),w2,hix,?_⟩
    rw[u8_xor]
    exact m1
   ·have:b.getD i 0=0:=by simp[List.getD,List.getElem?_eq_none (show b.length≤i by omega)]
    rw[this,UInt8.xor_zero]at m1
    exact m1
  refine⟨dec_t fun h=>?_,dec_f fun h=>?_⟩
  ·have hix:=index_str (P:=Tp) (t:=9) (k:=.i64) (n:=(i:Int)) (s:=strB a) (w:=w2) (by kernel_rfl) (by omega) (by rw[strB_size]; omega)
   rw[Int.toNat_natCast]at hix
   exact⟨((a.getD i 0).toNat:Int),w2,hix,main⟩
  ·have:a.getD i 0=0:=by simp[List.getD,List.getElem?_eq_none (show a.length≤i by omega)]
   rw[this]at main
   exact main
 ·have hie:i=N:=by omega
  subst hie
  rw[List.take_of_length_le (by rw[xorT_len]; omega)]at h2
  exact⟨_,w2,row_string h2 List.mem_cons_self,rfl,h2.chg.ext⟩
theorem pR_spec {L:List Txt}(hS:Short L) (hn:L.length≤1000000){p:Option Addr}{c:Nat}{w:World}(h:strsL w p L):Ret Tp 114 #[.slice p L.length c] w (.string (strB (sumT L))):=by
 refine ret_of (revetmentref05_P_calls ?_)
 unfold revetmentref05_P
 refine⟨fun vs w'=>Ext w w'∧∃i:Nat,vs=[.string (strB (sAcc L i)),.int .i64 (i:Int)]∧i≤L.length,fun vs _=>match vs with|[_,.int _ i]=>(L.length-i).toNat|_=>0,⟨Ext.refl w,0,rfl,by omega⟩,?_⟩
 rintro vs w1 ⟨hx,i,rfl,hi⟩
 refine⟨_,_,rfl,dec_t fun hlt=>?_,dec_f fun hge=>?_⟩
 ·have hlt:i<L.length:=by omega
  obtain⟨a,ha,hc⟩:=(h.ext hx).get hlt
  refine⟨a,ha,by omega,by omega,_,by rw[Int.toNat_natCast]; exact hc,?_⟩
  refine(xorR_spec (sAcc L i) (L.getD i []) (sAcc_len hS i) (hS.get i) w1).mono fun e w2 ⟨he,hx2⟩=>⟨_,he,⟨hx.trans hx2,i+1,?_,by omega⟩,?_⟩
  ·rw[wrap64 _ (by omega) (by omega)]; rfl
  ·show((L.length:Int)-IntKind.i64.wrap ((i:Int)+1)).toNat<((L.length:Int)-(i:Int)).toNat
   rw[wrap64 _ (by omega) (by omega)]; omega
 ·have hie:i=L.length:=by omega
  subst hie
  exact⟨rfl,hx⟩
theorem qR_spec {L:List Txt}(hS:Short L) (hn:L.length≤250){p:Option Addr}{c:Nat}{w:World}(h:strsL w p L):Ret Tp 115 #[.slice p L.length c] w (.string (strB (qT L))):=by
 refine ret_of (revetmentref05_Q_calls ?_)
 unfold revetmentref05_Q
 refine⟨fun vs w'=>Ext w w'∧∃i:Nat,vs=[.string (strB (qAcc L i)),.int .i64 (i:Int)]∧i≤L.length,fun vs _=>match vs with|[_,.int _ i]=>(L.length-i).toNat|_=>0,⟨Ext.refl w,0,rfl,by omega⟩,?_⟩
 rintro vs w1 ⟨hx,i,rfl,hi⟩
 refine⟨_,_,rfl,dec_t fun hlt=>?_,dec_f fun hge=>?_⟩
 ·have hlt:i<L.length:=by omega
  obtain⟨a,ha,hc⟩:=(h.ext hx).get hlt
  refine⟨fun w'=>Ext w w',hx.drew,a,ha,by omega,by omega,strB (L.getD i []),fun w' h'=>?_,?_⟩
  ·obtain⟨a',ha',hc'⟩:=(h.ext h').get hlt
   rw[ha]at ha'; cases ha'
   rw[Int.toNat_natCast]; exact hc'
  refine(expR_spec (i:Int) _).mono fun e w2 ⟨he,hx2⟩=>⟨_,he,hx.drew.trans hx2,?_⟩
  try dsimp only
  rw[exI_pos (by omega)]
  refine(timesR_spec (L.getD i []) (ex i) (hS.get i) w2).mono fun e w3 ⟨he,hx3⟩=>⟨_,he,(hx.drew.trans hx2).trans hx3,?_⟩
  refine(xorR_spec (qAcc L i) (timesL (L.getD i []) (ex i)) (qAcc_len hS i) (by rw[timesL_len]; exact hS.get i) w3).mono fun e w4 ⟨he,hx4⟩=>⟨_,he,((hx.drew.trans hx2).trans hx3).trans hx4,⟨((hx.drew.trans hx2).trans hx3).trans hx4,i+1,?_,by omega⟩,?_⟩
  ·rw[wrap64 _ (by omega) (by omega)]; rfl
  ·show((L.length:Int)-IntKind.i64.wrap ((i:Int)+1)).toNat<((L.length:Int)-(i:Int)).toNat
   rw[wrap64 _ (by omega) (by omega)]; omega
 ·have hie:i=L.length:=by omega
  subst hie
  exact⟨rfl,hx⟩
theorem sumR_spec {L:List Txt}(hS:Short L) (h2:2≤L.length) (hn:L.length≤200){p:Option Addr}{c:Nat}(hcl:L.length≤c){w:World}(h:strsL w p L):Ret Tp 48 #[.slice p L.length c] w (.tuple #[.string (strB (synP L)),.string (strB (synQ L))]):=by
 refine ret_of (revetmentref05_Sum_calls ?_)
 unfold revetmentref05_Sum
 have e1:IntKind.i64.wrap ((L.length:Int)-2)=((L.length-2:Nat):Int):=by rw[wrap64 _ (by omega) (by omega)]; omega
 have e2:IntKind.i64.wrap (((L.length-2:Nat):Int)+1)=((L.length-1:Nat):Int):=by rw[wrap64 _ (by omega) (by omega)]; omega
 simp only[e1,e2]
 have htl:(L.take (L.length-2)).length=L.length-2:=by rw[List.length_take]; omega
 have hST:=hS.take (L.length-2)
 obtain⟨a,ha,_⟩:=h.get (n:=0) (by omega)
 refine⟨dec_t fun hlt=>absurd hlt (by omega),dec_f fun _=>⟨fun w'=>Ext w w',(Ext.refl w).drew,p,L.length-2,c,fun w' _=>by rw[strs_to (by omega) (by omega) w',Int.toNat_natCast],?_⟩⟩
 have hx0:=(Ext.refl w).drew
 have hp:=pR_spec hST (by omega) (c:=c) ((h.ext hx0).take (L.length-2))
 rw[htl]at hp
 refine hp.mono fun e w1 ⟨he,hx1⟩=>⟨_,he,hx0.trans hx1,a,ha,by omega,by omega,strB (L.getD (L.length-2) []),fun w' h'=>?_,?_⟩
 ·obtain⟨a',ha',hc⟩:=(h.ext h').get (n:=L.length-2) (by omega)
  rw[ha]at ha'; cases ha'
  rw[Int.toNat_natCast]; exact hc
 refine(xorR_spec (sumT (L.take (L.length-2))) (L.getD (L.length-2) []) (sAcc_len hST _) (hS.get _) w1).mono fun e w2 ⟨he,hx2⟩=>⟨_,he,(hx0.trans hx1).trans hx2,p,L.length-2,c,fun w' _=>by rw[strs_to (by omega) (by omega) w',Int.toNat_natCast],?_⟩
 have hx02:=(hx0.trans hx1).trans hx2
 have hq:=qR_spec hST (by omega) (c:=c) ((h.ext hx02).take (L.length-2))
 try dsimp only
 rw[htl]at hq
 refine hq.mono fun e w3 ⟨he,hx3⟩=>⟨_,he,hx02.trans hx3,a,ha,by omega,by omega,strB (L.getD (L.length-1) []),fun w' h'=>?_,?_⟩
 ·obtain⟨a',ha',hc⟩:=(h.ext h').get (n:=L.length-1) (by omega)
  rw[ha]at ha'; cases ha'
  rw[Int.toNat_natCast]; exact hc
 exact(xorR_spec (qT (L.take (L.length-2))) (L.getD (L.length-1) []) (qAcc_len hST _) (hS.get _) w3).mono fun e w4 ⟨he,hx4⟩=>⟨_,he,(hx02.trans hx3).trans hx4,rfl,(hx02.trans hx3).trans hx4⟩
theorem zeroR_spec (l:Txt) (hs:l.length≤1000000) (w:World):Ret Tp 49 #[.string (strB l)] w (.bool (l.all fun x=>x==0)):=by
 refine ret_of (revetmentref05_Zero_calls ?_)
 unfold revetmentref05_Zero
 rw[strB_size]
 refine⟨fun vs w'=>w'=w∧∃i:Nat,vs=[.int .i64 (i:Int)]∧i≤l.length∧(l.take i).all (fun x=>x==0)=true,fun vs _=>match vs with|[.int _ i]=>(l.length-i).toNat|_=>0,⟨rfl,0,rfl,by omega,rfl⟩,?_⟩
 rintro vs w1 ⟨rfl,i,rfl,hi,hs'⟩
 refine⟨_,rfl,dec_t fun hlt=>?_,dec_f fun hge=>?_⟩
 ·have hlt:i<l.length:=by omega
  have hix:=index_str (P:=Tp) (t:=9) (k:=.i64) (n:=(i:Int)) (s:=strB l) (w:=w1) (by kernel_rfl) (by omega) (by rw[strB_size]; omega)
  rw[Int.toNat_natCast]at hix
  have hg:l.getD i 0=l[i]:=by simp[List.getD,hlt]
  refine⟨((l[i]).toNat:Int),w1,by rw[←hg]; exact hix,bne_t fun hne=>⟨?_,Ext.refl _⟩,bne_f fun he=>⟨⟨rfl,i+1,?_,by omega,?_⟩,?_⟩⟩
  ·have:l.all (fun x=>x==0)=false:=List.all_eq_false.2 ⟨l[i],List.getElem_mem hlt,fun e=>hne (by rw[beq_iff_eq.1 e]; rfl)⟩
   rw[this]
  ·rw[wrap64 _ (by omega) (by omega)]; rfl
  ·have:l[i]=0:=u8_zero he
   rw[List.take_add_one,List.getElem?_eq_getElem hlt,List.all_append,hs',this]; rfl
  ·show((l.length:Int)-IntKind.i64.wrap ((i:Int)+1)).toNat<((l.length:Int)-(i:Int)).toNat
   rw[wrap64 _ (by omega) (by omega)]; omega
 ·have hie:i=l.length:=by omega
  subst hie
  rw[List.take_length]at hs'
  exact⟨by rw[hs'],Ext.refl _⟩
def goodF (L:List Txt):Bool:=(synP L).all (fun x=>x==0)&&(synQ L).all fun x=>x==0
theorem goodR_spec {L:List Txt}(hS:Short L) (h2:2≤L.length) (hn:L.length≤200){p:Option Addr}{c:Nat}(hcl:L.length≤c){w:World}(h:strsL w p L):Ret Tp 19 #[.slice p L.length c] w (.bool (goodF L)):=by
 refine ret_of (revetmentref05_Good_calls ?_)
 unfold revetmentref05_Good
 refine(sumR_spec hS h2 hn hcl h).mono fun e w1 ⟨he,hx1⟩=>⟨_,_,he,yes (decide_eq_true (by omega)) ?_⟩
 refine(zeroR_spec (synP L) (synP_len hS) w1).mono fun e w2 ⟨he,hx2⟩=>⟨_,he,fun h=>?_,fun h=>⟨by unfold goodF; rw[h]; rfl,hx1.trans hx2⟩⟩
 refine(zeroR_spec (synQ L) (synQ_len hS) w2).mono fun e w3 ⟨he,hx3⟩=>⟨_,he,by unfold goodF; rw[h]; rfl,(hx1.trans hx2).trans hx3⟩
def secC (ds:List Od) (bu:List Int) (row sec:Int) (c:Nat):ByteArray×Int:=if bu.getD c 0≤row then (noB,41) else match thereO ds c with
 |some x=>x.2.read sec
 |none=>(noB,41)
theorem secR_col (s:RwS) (ds:List Od) (bu:List Int) (row off role:Int):secR s ds bu row off role=secC ds bu row (sectorG s.c s.k s.r row off) (colR s row role).toNat:=by
 unfold secR secC builtO
 by_cases h:bu.getD (colR s row role).toNat 0≤row
 ·rw[if_pos h,if_pos h]
 ·rw[if_neg h,if_neg h]; rfl
theorem colR_surj {s:RwS}(hG:OkG s.c s.k s.r){row:Int}(hr:0≤row∧row<s.r){g:Nat}(hg:(g:Int)<s.c):∃i:Nat,(i:Int)<s.c∧(colR s row i).toNat=g:=by
 have hc:=hG.1
 have hf:0≤firstG s.c row∧firstG s.c row<s.c:=⟨Int.emod_nonneg _ (by omega),Int.emod_lt_of_pos _ (by omega)⟩
 by_cases h:firstG s.c row<(g:Int)
 ·refine⟨((g:Int)-firstG s.c row-1).toNat,by omega,?_⟩
  have e:((((g:Int)-firstG s.c row-1).toNat:Nat):Int)=(g:Int)-firstG s.c row-1:=by omega
  rw[e,colR_v hG hr (by omega),if_pos (by omega)]; omega
 ·refine⟨((g:Int)-firstG s.c row-1+s.c).toNat,by omega,?_⟩
  have e:((((g:Int)-firstG s.c row-1+s.c).toNat:Nat):Int)=(g:Int)-firstG s.c row-1+s.c:=by omega
  rw[e,colR_v hG hr (by omega),if_neg (by omega)]; omega
section
variable {s:RwS}{ds:List Od}{bu:List Int}{N:Nat}{row sec:Int}{V:Nat→Txt}{G:Nat→Bool}
end
theorem misL_mem {p:Nat→Bool}{n:Nat}{x:Int}:x∈misL p n↔∃i:Nat,x=(i:Int)∧i<n∧p i=true:=by
 unfold misL
 rw[List.mem_map]
 constructor
 ·rintro⟨i,hi,rfl⟩
  obtain⟨h1,h2⟩:=List.mem_filter.1 hi
  exact⟨i,rfl,List.mem_range.1 h1,h2⟩
 ·rintro⟨i,rfl,h1,h2⟩
  exact⟨i,List.mem_filter.2 ⟨List.mem_range.2 h1,h2⟩,rfl⟩
theorem misL_nodup (p:Nat→Bool) (n:Nat):(misL p n).Nodup:=by
 unfold misL
 have h:((List.range n).filter p).Nodup:=List.nodup_range.filter _
 rw[List.Nodup,List.pairwise_map]
 exact h.imp fun {a b} hab e=>hab (by omega)
theorem at_most {p:Nat→Bool}{n:Nat}{f:Nat→Nat}{S:List Nat}(hf:∀i j,i<n→j<n→f i=f j→i=j) (hp:∀i,i<n→p i=true→f i∈S):∀l:List Nat,l.Nodup→(∀x∈l,x<n∧p x=true)→l.length≤S.length:=by
 induction S generalizing p with
 |nil=>
  intro l _ hl
  cases l with
  |nil=>simp
  |cons x t=>
   obtain⟨h1,h2⟩:=hl x List.mem_cons_self
   exact absurd (hp x h1 h2) (by simp)
 |cons a S ih=>
  intro l hn hl
  by_cases ha:∃x∈l,f x=a
  ·obtain⟨x,hx,hfx⟩:=ha
   have h1:=ih (p:=fun i=>p i&&decide (f i≠a)) (fun i hi hpi=>by
    simp only[Bool.and_eq_true,decide_eq_true_eq]at hpi
    rcases List.mem_cons.1 (hp i hi hpi.1) with h|h
    ·exact absurd h hpi.2
    ·exact h) (l.erase x) (hn.erase x) (fun y hy=>by
    have hy2:=List.mem_of_mem_erase hy
    refine⟨(hl y hy2).1,?_⟩
    simp only[Bool.and_eq_true,decide_eq_true_eq]
    refine⟨(hl y hy2).2,fun e=>?_⟩
    have:y=x:=hf y x (hl y hy2).1 (hl x hx).1 (e.trans hfx.symm)
    subst this
    exact(hn.not_mem_erase) hy)
   rw[List.length_erase_of_mem hx]at h1
   simp only[List.length_cons]; omega
  ·have h1:=ih (p:=fun i=>p i&&decide (f i≠a)) (fun i hi hpi=>by
    simp only[Bool.and_eq_true,decide_eq_true_eq]at hpi
    rcases List.mem_cons.1 (hp i hi hpi.1) with h|h
    ·exact absurd h hpi.2
    ·exact h) l hn (fun y hy=>by
    simp only[Bool.and_eq_true,decide_eq_true_eq]
    exact⟨(hl y hy).1,(hl y hy).2,fun e=>ha ⟨y,hy,e⟩⟩)
   simp only[List.length_cons]; omega
theorem misL_most {p:Nat→Bool}{n:Nat}{f:Nat→Nat}{S:List Nat}(hf:∀i j,i<n→j<n→f i=f j→i=j) (hp:∀i,i<n→p i=true→f i∈S):(misL p n).length≤S.length:=by
 unfold misL
 rw[List.length_map]
 refine at_most hf hp _ (List.nodup_range.filter _) fun x hx=>?_
 obtain⟨h1,h2⟩:=List.mem_filter.1 hx
 exact⟨List.mem_range.1 h1,h2⟩
theorem lost_ok {L:List Txt}(hL:GoodL L 64) (W:Nat→Bool):OkM ((List.range L.length).map fun i:Nat=>if W i then [] else L.getD i []) (misL W L.length):=by
 have hl:((List.range L.length).map fun i:Nat=>if W i then [] else L.getD i []).length=L.length:=by simp
 refine⟨by rw[hl]; exact hL.n4,by rw[hl]; exact hL.n10,fun x hx=>?_,misL_nodup _ _,64,by omega,fun j hj hn=>?_⟩
 ·obtain⟨i,rfl,h1,_⟩:=misL_mem.1 hx
  rw[hl]; omega
 ·rw[hl]at hj
  have hW:W j=false:=by
   cases hw:W j with
   |true=>exact absurd (misL_mem.2 ⟨j,rfl,hj,hw⟩) hn
   |false=>rfl
  rw[List.getD_eq_getElem?_getD,List.getElem?_map,List.getElem?_range hj]
  show(if W j=true then [] else L.getD j []).length=64
  rw[hW]
  exact hL.all j hj
theorem lost_fill {L:List Txt}(hL:GoodL L 64) (W:Nat→Bool) (h2:(misL W L.length).length≤2):fillF ((List.range L.length).map fun i:Nat=>if W i then [] else L.getD i []) (misL W L.length)=L:=by
 refine fill_back (m:=64) (lost_ok hL W) h2 (by simp) hL.all (fun c hc hn=>?_) fun j=>hL.filled _ j
 have hW:W c=false:=by
  cases hw:W c with
  |true=>exact absurd (misL_mem.2 ⟨c,rfl,hc,hw⟩) hn
  |false=>rfl
 rw[List.getD_eq_getElem?_getD,List.getElem?_map,List.getElem?_range hc]
 show(if W c=true then [] else L.getD c [])=_
 rw[hW]; rfl
theorem Ow.stRow {h:Kd}{F:List Nat}{w0 w:World}{X Δ:List A}{e:TypeId}{n cap b k:Nat}{xs:List Value}{v:Value}{K:World→Prop}(H:Ow h F w0 w X) (hk:Pick (rowP e 1 (some b) n cap xs) X Δ) (hkl:k<xs.length) (hv:scalar v=true)
  (hK:∀w',Ow h F w0 w' (rowP e 1 (some b) n cap (xs.set k v)::Δ)→K w'):St (Addr.add ⟨b,0,none⟩ (k*1)) v w K:=by
 obtain⟨Y,hY,hT⟩:=H
 exact StRow1.t hT (hk.app Y) hkl hv fun w' h'=>hK w' ⟨Y,hY,h'⟩
theorem Ow.forget {ds:List Od}{F:List Nat}{w0 w:World}{X:List A}(H:Ow (dsK ds) F w0 w X) (k:Nat):Ow (dsK (ds.set k none)) F w0 w X:=by
 by_cases hk:k<ds.length
 ·have he:ds[k]?=some ds[k]:=List.getElem?_eq_getElem hk
  obtain⟨Z,h1,h2⟩:=Ow.at he H
  exact h2 (x':=none) (Ow.of_T h1.under)
 ·rw[List.set_eq_of_length_le (by omega)]; exact H
theorem ptrsV_none (ds:List Od) (k:Nat):(ptrsV (blks ds)).set k (.pointer none)=ptrsV (blks (ds.set k none)):=by
 unfold ptrsV blks
 rw[List.map_set,List.map_set]; rfl
theorem intsI_set (l:List Int) (k:Nat) (x:Int):(intsI l).set k (.int .i64 x)=intsI (l.set k x):=by
 unfold intsI
 rw[List.map_set]
abbrev seR (s:RwS) (ds:List Od) (bu:List Int) (g1 g2:Nat):List A:=[rowP 35 1 (some g1) ds.length s.cd (ptrsV (blks ds)),rowP 3 1 (some g2) bu.length s.cb (intsI bu)]
def seK (s:RwS) (ds:List Od) (bu:List Int):Kd:=fun Y=>∃(g1 g2:Nat) (Z:List A),s.pd=some ⟨g1,0,none⟩∧s.pb=some ⟨g2,0,none⟩∧dsK ds Z∧Y=seR s ds bu g1 g2++Z
section
variable {s:RwS}{ds:List Od}{bu:List Int}{F:List Nat}{w0 w:World}{X:List A}
theorem se_open (H:Ow (seK s ds bu) F w0 w X):∃g1 g2:Nat,s.pd=some ⟨g1,0,none⟩∧s.pb=some ⟨g2,0,none⟩∧Ow (dsK ds) F w0 w (X++seR s ds bu g1 g2):=by
 obtain⟨Y,⟨g1,g2,Z,h1,h2,h3,rfl⟩,hT⟩:=H
 exact⟨g1,g2,h1,h2,Z,h3,by rw[List.append_assoc]; exact hT⟩
theorem se_shut {g1 g2:Nat}(h1:s.pd=some ⟨g1,0,none⟩) (h2:s.pb=some ⟨g2,0,none⟩) (H:Ow (dsK ds) F w0 w (X++seR s ds bu g1 g2)):Ow (seK s ds bu) F w0 w X:=by
 obtain⟨Z,h3,hT⟩:=H
 exact⟨_,⟨g1,g2,Z,h1,h2,h3,rfl⟩,by rw[←List.append_assoc]; exact hT⟩
theorem se_w (H:Ow (seK s ds bu) F w0 w X):RwW s ds bu w:=by
 obtain⟨g1,g2,h1,h2,H⟩:=se_open H
 refine⟨⟨F,w0,_,H⟩,?_,?_⟩
 ·rw[h1]; exact(T.ptrs H.under (g:=some g1) (t:=35) (n:=ds.length) (cap:=s.cd) (ps:=blks ds) (List.mem_append_right _ (by repeat constructor))).1
 ·rw[h2]; exact(T.ints H.under (g:=some g2) (n:=bu.length) (cap:=s.cb) (l:=bu) (List.mem_append_right _ (by repeat constructor))).1
theorem se_set {ds':List Od}{g1 g2:Nat}(hb:blks ds'=blks ds):seR s ds' bu g1 g2=seR s ds bu g1 g2:=by
 have hl:ds'.length=ds.length:=by have:=congrArg List.length hb; rwa [blks_len,blks_len]at this
 unfold seR
 rw[hb,hl]
theorem se_dcell (H:Ow (seK s ds bu) F w0 w X){i:Nat}{y:Od}(hy:ds[i]?=some y):∃a,s.pd=some a∧w.cell? (a.add (i*1))=some (.pointer (ptr (odB y))):=(se_w H).pd.get (blks_get hy)
theorem se_on {P:Program}{f:FuncId}{args:Array Value}{v:Value}{p i:Nat}{a b:AD}(H:Ow (seK s ds bu) F w0 w X) (hk:ds[i]?=some (some (p,a))) (hc:∀Z,Dr p a F w0 w (X++Z)→Calls P f args w fun e w'=>e=.returned v∧Dr p b F w0 w' (X++Z)):Calls P f args w fun e w'=>e=.returned v∧Ow (seK s (ds.set i (some (p,b))) bu) F w0 w' X:=by
 obtain⟨g1,g2,h1,h2,H⟩:=se_open H
 refine(Ow.onDrive (b:=b) H hk fun Z hZ=>?_).mono fun e w' ⟨he,h'⟩=>⟨he,se_shut h1 h2 (by rw[se_set (blks_set hk)]; exact h')⟩
 rw[List.append_assoc]at hZ⊢
 exact hc _ hZ
theorem se_none {i:Nat}{K:World→Prop}{ad:Addr}(H:Ow (seK s ds bu) F w0 w X) (hp:s.pd=some ad) (hi:i<ds.length) (hK:∀w',Ow (seK s (ds.set i none) bu) F w0 w' X→K w'):St (ad.add (i*1)) (.pointer none) w K:=by
 obtain⟨g1,g2,h1,h2,H⟩:=se_open H
 rw[h1]at hp
 cases hp
 have H:Ow (dsK ds) F w0 w (rowP 35 1 (some g1) ds.length s.cd (ptrsV (blks ds))::(X++[rowP 3 1 (some g2) bu.length s.cb (intsI bu)])):=H.perm List.perm_middle
 refine Ow.stRow (Ow.forget H i) .head (by rw[ptrsV_len,blks_len]; exact hi) rfl fun w' H'=>hK w' ?_
 rw[ptrsV_none]at H'
 refine se_shut h1 h2 ?_
 unfold seR
 rw[List.length_set]
 exact H'.perm List.perm_middle.symm
theorem se_bu {i:Nat}{x:Int}{K:World→Prop}{ad:Addr}(H:Ow (seK s ds bu) F w0 w X) (hp:s.pb=some ad) (hi:i<bu.length) (hK:∀w',Ow (seK s ds (bu.set i x)) F w0 w' X→K w'):St (ad.add (i*1)) (.int .i64 x) w K:=by
 obtain⟨g1,g2,h1,h2,H⟩:=se_open H
 rw[h2]at hp
 cases hp
 have H:Ow (dsK ds) F w0 w (rowP 3 1 (some g2) bu.length s.cb (intsI bu)::(X++[rowP 35 1 (some g1) ds.length s.cd (ptrsV (blks ds))])):=by
  refine H.perm ?_
  refine(List.Perm.append_left _ (.swap _ _ _)).trans ?_
  exact List.perm_middle
 refine Ow.stRow H .head (by rw[intsI_len]; exact hi) rfl fun w' H'=>hK w' ?_
 rw[intsI_set]at H'
 refine se_shut h1 h2 ?_
 unfold seR
 rw[List.length_set]
 exact H'.perm (List.perm_middle.symm.trans (List.Perm.append_left _ (.swap _ _ _)))
theorem se_flush (H:Ow (seK s ds bu) F w0 w X) (hl:ds.length≤1000000) (hF:FewL ds 1000000):
  Calls Tp 68 #[.agg (rwC s ds.length bu.length)] w fun e w'=>e=.returned (.int .i64 (if RMay s ds bu then (if ds.any offO then 42 else 0) else 1))∧Ow (seK s (if RMay s ds bu then ds.map flushO else ds) bu) F w0 w' X:=by
 obtain⟨g1,g2,h1,h2,H⟩:=se_open H
 refine(flush16_spec H (s:=s) (bu:=bu) (fun w' h'=>?_) hl hF).mono fun e w' ⟨he,h'⟩=>⟨he,se_shut h1 h2 ?_⟩
 ·refine⟨?_,?_⟩
  ·rw[h1]; exact(T.ptrs h' (g:=some g1) (t:=35) (n:=ds.length) (cap:=s.cd) (ps:=blks ds) (List.mem_append_right _ (by repeat constructor))).1
  ·rw[h2]; exact(T.ints h' (g:=some g2) (n:=bu.length) (cap:=s.cb) (l:=bu) (List.mem_append_right _ (by repeat constructor))).1
 ·have e1:blks (if RMay s ds bu then ds.map flushO else ds)=blks ds:=by
   split
   ·exact flush_blks ds
   ·rfl
  rw[se_set e1]; exact h'
end
theorem readR_of {s:RwS}{ds:List Od}{bu:List Int}(hM:RMay s ds bu){row off:Int}(hr:0≤row∧row<s.r) (ho:0≤off∧off<s.k){L:List Txt}{c:Nat}(hc:s.c=(c:Int)) (W:Nat→Bool) (hs:∀i:Nat,i<c→secR s ds bu row off i=if W i then (noB,41) else (strB (L.getD i []),0)):
  atE s ds bu row off=0∧readR s ds bu row off=.ok ((List.range c).map fun i:Nat=>if W i then [] else L.getD i [],misL W c):=by
 have h0:atE s ds bu row off=0:=by unfold atE; rw[if_pos hM,if_neg (by omega)]
 refine⟨h0,?_⟩
 unfold readR
 rw[if_neg (by omega),if_neg,hc,Int.toNat_natCast]
 ·congr 2
  ·unfold colX
   refine List.map_congr_left fun i hi=>?_
   show(secR s ds bu row off (i:Int)).1.data.toList=_
   rw[hs i (List.mem_range.1 hi)]
   cases W i<;>rfl
  ·unfold colL misL
   congr 1
   refine List.filter_congr fun i hi=>?_
   show((secR s ds bu row off (i:Int)).2 != 0)=_
   rw[hs i (List.mem_range.1 hi)]
   cases W i<;>rfl
 ·intro ha
  obtain⟨i,hi,hb⟩:=List.any_eq_true.1 ha
  have hi:=List.mem_range.1 hi
  rw[hs i (by omega)]at hb
  cases hg:W i<;>rw[hg]at hb<;>cases hb
open Classical in
theorem filR_of {s:RwS}{ds:List Od}{bu:List Int}(hM:RMay s ds bu){row off:Int}(hr:0≤row∧row<s.r) (ho:0≤off∧off<s.k){L:List Txt}{c:Nat}(hc:s.c=(c:Int)) (hL:L.length=c) (hG:GoodL L 64) (W:Nat→Bool) (hs:∀i:Nat,i<c→secR s ds bu row off i=if W i then (noB,41) else (strB (L.getD i []),0)):
  filR s ds bu row off=(if (misL W c).length≤2 then .ok (L,misL W c) else .error 60):=by
 obtain⟨h0,hR⟩:=readR_of hM hr ho hc W hs
 have hok:=lost_ok hG W
 rw[hL]at hok
 unfold filR
 rw[hR]
 show(if OkM _ _ then _ else _)=_
 rw[if_pos hok]
 by_cases h2:(misL W c).length≤2
 ·rw[if_pos h2,if_pos h2]
  have:=lost_fill hG W (by rw[hL]; exact h2)
  rw[hL]at this
  rw[this]
 ·rw[if_neg h2,if_neg h2]
structure AD.Live (a:AD) (N M:Nat) (f:Nat→ByteArray):Prop where
 on:a.On N
 few:a.Few M
 sp:∀j,a.spoilt j=false
 top:∀j,j<N→a.top j=f j
section
variable {a:AD}{N M:Nat}{f:Nat→ByteArray}
theorem AD.Hold.live (h:a.Hold N f) (M:Nat):a.Live N M f:=⟨h.on,h.few M,h.sp,fun j hj=>by rw[AD.top_none (h.pend j),h.safe j hj]⟩
theorem AD.Live.mono (h:a.Live N M f){M':Nat}(hm:M≤M'):a.Live N M' f:=⟨h.on,h.few.mono hm,h.sp,h.top⟩
theorem AD.Live.read (h:a.Live N M f){j:Nat}(hj:j<N):a.read (j:Int)=(f j,0):=by
 rw[read_on h.on (by omega),Int.toNat_natCast,if_neg (by rw[h.sp]; decide),h.top j hj]
theorem AD.Live.write (h:a.Live N M f){j:Nat}(hj:j<N){x:ByteArray}(hx:x.size=64):(a.write (j:Int) x).Live N (M+1) (fun i=>if i=j then x else f i):=by
 have hp:=h.on.put (i:=(j:Int)) (by omega) hx
 refine⟨h.on.write _ _,h.few.write _ _,fun i=>?_,fun i hi=>?_⟩
 ·rw[AD.write_of hp]
  show(if i=(j:Int).toNat then false else a.spoilt i)=false
  rw[h.sp]; split<;>rfl
 ·rw[AD.write_top hp,Int.toNat_natCast,h.top i hi]
theorem AD.Live.flush (h:a.Live N M f):a.flush.Hold N f:=by
 have h1:=h.on.flush1
 refine⟨h.on.flush,fun j=>?_,fun j=>?_,fun j hj=>?_⟩
 ·rw[AD.flush_of h1]; rfl
 ·rw[AD.flush_of h1]; exact h.sp j
 ·rw[(AD.flush_safe h1 (by rw[h.on.len]; exact hj)).1,h.top j hj]
end
structure MdS (s:RwS) (ds:List Od) (bu:List Int) (N M:Nat) (K:Nat→Nat) (f:Nat→Nat→ByteArray):Prop where
 ok:OkG s.c s.k s.r
 len:(ds.length:Int)=s.c
 bl:(bu.length:Int)=s.c
 size:(N:Int)=4+s.r*s.k
 co:∀i,i<ds.length→(K i=0∧∃p a,ds[i]?=some (some (p,a))∧a.Live N M (f i))∨(K i=1∧ds[i]?=some none)∨(K i=2∧∃p a,ds[i]?=some (some (p,a))∧a.safe.length=N∧a.Few M)
def upF (f:Nat→Nat→ByteArray) (c t:Nat) (x:ByteArray):Nat→Nat→ByteArray:=fun i j=>if i=c∧j=t then x else f i j
theorem rmay_at {s:RwS}{ds:List Od}{bu:List Int}{N:Nat}(h1:OkG s.c s.k s.r) (h2:(ds.length:Int)=s.c) (h3:(bu.length:Int)=s.c) (h4:(N:Int)=4+s.r*s.k) (h5:∀i,i<ds.length→∀p a,ds[i]?=some (some (p,a))→a.safe.length=N):RMay s ds bu:=by
 refine⟨h1,h2,h3,fun y hy x hx=>?_⟩
 obtain⟨i,hi,rfl⟩:=List.getElem_of_mem hy
 have:=h5 i hi x.1 x.2 (by rw[List.getElem?_eq_getElem hi,hx])
 unfold needG
 rw[if_pos h1,this,h4]
 exact Int.le_refl _
section
variable {s:RwS}{ds:List Od}{bu:List Int}{N M:Nat}{K:Nat→Nat}{f:Nat→Nat→ByteArray}
theorem MdS.all (h:MdS s ds bu N M K f){i p:Nat}{a:AD}(hk:ds[i]?=some (some (p,a))):a.safe.length=N∧a.Few M:=by
 obtain⟨hi,_⟩:=List.getElem?_eq_some_iff.1 hk
 rcases h.co i hi with⟨_,p',a',hk',hl⟩|⟨_,hk'⟩|⟨_,p',a',hk',hl⟩
 ·rw[hk]at hk'; cases hk'; exact⟨hl.on.len,hl.few⟩
 ·rw[hk]at hk'; cases hk'
 ·rw[hk]at hk'; cases hk'; exact hl
theorem MdS.may (h:MdS s ds bu N M K f):RMay s ds bu:=rmay_at h.ok h.len h.bl h.size fun i hi p a hk=>(h.all hk).1
theorem MdS.few (h:MdS s ds bu N M K f):FewL ds M:=fun q a hm=>by
 obtain⟨i,hi,he⟩:=List.getElem_of_mem hm
 exact(h.all (i:=i) (p:=q) (a:=a) (by rw[List.getElem?_eq_getElem hi,he])).2
theorem MdS.mono (h:MdS s ds bu N M K f){M':Nat}(hm:M≤M'):MdS s ds bu N M' K f:=by
 refine⟨h.ok,h.len,h.bl,h.size,fun i hi=>?_⟩
 rcases h.co i hi with⟨h1,p,a,h2,h3⟩|h1|⟨h1,p,a,h2,h3,h4⟩
 ·exact .inl ⟨h1,p,a,h2,h3.mono hm⟩
 ·exact .inr (.inl h1)
 ·exact .inr (.inr ⟨h1,p,a,h2,h3,h4.mono hm⟩)
theorem MdS.live (h:MdS s ds bu N M K f){i:Nat}(hi:i<ds.length) (h0:K i=0):∃p a,ds[i]?=some (some (p,a))∧a.Live N M (f i):=by
 rcases h.co i hi with⟨_,h1⟩|⟨h1,_⟩|⟨h1,_⟩
 ·exact h1
 ·omega
 ·omega
theorem MdS.there (h:MdS s ds bu N M K f){i:Nat}(hi:i<ds.length) (h0:K i=0):∃p a,ds[i]?=some (some (p,a))∧a.Live N M (f i)∧thereO ds i=some (p,a):=by
 obtain⟨p,a,hk,hl⟩:=h.live hi h0
 refine⟨p,a,hk,hl,?_⟩
 unfold thereO
 rw[List.getD_eq_getElem?_getD,hk]
 show(if a.dead=true then none else some (p,a))=_
 rw[if_neg (by rw[hl.on.dead]; decide)]
theorem MdS.not (h:MdS s ds bu N M K f){i:Nat}(hi:i<ds.length) (h1:K i=1):ds[i]?=some none∧thereO ds i=none:=by
 have hk:ds[i]?=some none:=by
  rcases h.co i hi with⟨h2,_⟩|⟨_,h2⟩|⟨h2,_⟩
  ·omega
  ·exact h2
  ·omega
 refine⟨hk,?_⟩
 unfold thereO
 rw[List.getD_eq_getElem?_getD,hk]; rfl
theorem MdS.sec (h:MdS s ds bu N M K f){row off role:Int}(hr:0≤row∧row<s.r) (ho:0≤off∧off<s.k) (h0:0≤role∧role<s.c){c:Nat}(hc:c=(colR s row role).toNat):
  (bu.getD c 0≤row→secR s ds bu row off role=(noB,41))∧(K c=1→secR s ds bu row off role=(noB,41))∧(row<bu.getD c 0→K c=0→secR s ds bu row off role=(f c (sectorG s.c s.k s.r row off).toNat,0)):=by
 have hcl:=(colR_nat h.ok hr h0).2
 rw[←hc]at hcl
 have hlen:=h.len
 rw[secR_col,←hc]
 unfold secC
 refine⟨fun hb=>by rw[if_pos hb],fun h1=>?_,fun hb h1=>?_⟩
 ·split
  ·rfl
  ·rw[(h.not (by omega) h1).2]
 ·rw[if_neg (by omega)]
  obtain⟨p,a,hk,hl,ht⟩:=h.there (i:=c) (by omega) h1
  rw[ht]
  show a.read _=_
  have hs:=sectorG_in h.ok hr ho
  have hz:=h.size
  have e:sectorG s.c s.k s.r row off=((sectorG s.c s.k s.r row off).toNat:Int):=by omega
  rw[e,hl.read (by omega),Int.toNat_natCast]
theorem MdS.no42 (h:MdS s ds bu N M K f) (hK:∀i,i<ds.length→K i≠2):ds.any offO=false:=by
 rw[Bool.eq_false_iff]
 intro ht
 obtain⟨y,hy,hs⟩:=List.any_eq_true.1 ht
 obtain⟨i,hi,rfl⟩:=List.getElem_of_mem hy
 rcases h.co i hi with⟨_,p,a,h2,h3⟩|⟨_,h2⟩|⟨h1,_⟩
 ·rw[List.getElem?_eq_getElem hi,Option.some_inj]at h2
  rw[h2]at hs
  have:(a.flush1==42)=true:=hs
  rw[h3.on.flush1]at this
  cases this
 ·rw[List.getElem?_eq_getElem hi,Option.some_inj]at h2
  rw[h2]at hs
  cases hs
 ·exact hK i hi h1
def MdH (ds:List Od) (N:Nat) (K:Nat→Nat) (f:Nat→Nat→ByteArray):Prop:=∀i,i<ds.length→K i=0→∃p a,ds[i]?=some (some (p,a))∧a.Hold N (f i)
theorem flushO_get {ds:List Od}{i:Nat}{y:Od}(h:ds[i]?=some y):(ds.map flushO)[i]?=some (flushO y):=by rw[List.getElem?_map,h]; rfl
theorem flush_len (a:AD):a.flush.safe.length=a.safe.length:=by
 unfold AD.flush
 split
 ·rfl
 ·show(keptFrom _ _ 0 0 a.safe).length=_
  rw[keptFrom_len]
theorem MdS.flush (h:MdS s ds bu N M K f):MdS s (ds.map flushO) bu N M K f∧MdH (ds.map flushO) N K f:=by
 refine⟨⟨h.ok,by rw[List.length_map]; exact h.len,h.bl,h.size,fun i hi=>?_⟩,fun i hi h0=>?_⟩
 ·rw[List.length_map]at hi
  rcases h.co i hi with⟨h1,p,a,h2,h3⟩|⟨h1,h2⟩|⟨h1,p,a,h2,h3,h4⟩
  ·exact .inl ⟨h1,p,_,flushO_get h2,h3.flush.live M⟩
  ·exact .inr (.inl ⟨h1,flushO_get h2⟩)
  ·exact .inr (.inr ⟨h1,p,_,flushO_get h2,(flush_len a).trans h3,h4.flush⟩)
 ·rw[List.length_map]at hi
  obtain⟨p,a,h2,h3⟩:=h.live hi h0
  exact⟨p,_,flushO_get h2,h3.flush⟩
theorem MdS.put (h:MdS s ds bu N M K f){i:Nat}(hi:i<ds.length){y:Od}{k:Nat}{g:Nat→ByteArray}(hy:(k=0∧∃p a,y=some (p,a)∧a.Live N M g)∨(k=1∧y=none)∨(k=2∧∃p a,y=some (p,a)∧a.safe.length=N∧a.Few M)):
  MdS s (ds.set i y) bu N M (fun j=>if j=i then k else K j) (fun j=>if j=i then g else f j):=by
 refine⟨h.ok,by rw[List.length_set]; exact h.len,h.bl,h.size,fun j hj=>?_⟩
 rw[List.length_set]at hj
 by_cases e:j=i
 ·subst e
  rw[List.getElem?_set_self hj]
  simp only[if_true]
  rcases hy with⟨h1,p,a,rfl,h2⟩|⟨h1,rfl⟩|⟨h1,p,a,rfl,h2⟩
  ·exact .inl ⟨h1,p,a,rfl,h2⟩
  ·exact .inr (.inl ⟨h1,rfl⟩)
  ·exact .inr (.inr ⟨h1,p,a,rfl,h2⟩)
 ·rw[List.getElem?_set_ne (Ne.symm e)]
  simp only[if_neg e]
  exact h.co j hj
theorem MdS.numbers (h:MdS s ds bu N M K f){bu':List Int}(hb:bu'.length=bu.length):MdS s ds bu' N M K f:=⟨h.ok,h.len,by rw[hb]; exact h.bl,h.size,h.co⟩
theorem MdS.congr (h:MdS s ds bu N M K f){K':Nat→Nat}{f':Nat→Nat→ByteArray}(hK:∀i,i<ds.length→K' i=K i) (hf:∀i,i<ds.length→K i=0→∀j,j<N→f' i j=f i j):MdS s ds bu N M K' f':=by
 refine⟨h.ok,h.len,h.bl,h.size,fun i hi=>?_⟩
 rw[hK i hi]
 rcases h.co i hi with⟨h1,p,a,h2,h3⟩|h1|h1
 ·exact .inl ⟨h1,p,a,h2,h3.on,h3.few,h3.sp,fun j hj=>by rw[h3.top j hj,hf i hi h1 j hj]⟩
 ·exact .inr (.inl h1)
 ·exact .inr (.inr h1)
end
def rwT (s:RwS) (f:Nat→Nat→ByteArray) (row off:Int) (c:Nat):List Txt:=(List.range c).map fun i:Nat=>(f (colR s row i).toNat (sectorG s.c s.k s.r row off).toNat).data.toList
theorem rwT_len (s:RwS) (f:Nat→Nat→ByteArray) (row off:Int) (c:Nat):(rwT s f row off c).length=c:=by simp[rwT]
theorem rwT_get (s:RwS) (f:Nat→Nat→ByteArray) (row off:Int){c i:Nat}(hi:i<c):(rwT s f row off c).getD i []=(f (colR s row i).toNat (sectorG s.c s.k s.r row off).toNat).data.toList:=by
 unfold rwT
 rw[List.getD_eq_getElem?_getD,List.getElem?_map,List.getElem?_range hi]; rfl
theorem rwT_str (s:RwS) (f:Nat→Nat→ByteArray) (row off:Int){c i:Nat}(hi:i<c):strB ((rwT s f row off c).getD i [])=f (colR s row i).toNat (sectorG s.c s.k s.r row off).toNat:=by
 exact(congrArg strB (rwT_get s f row off hi)).trans (strB_list _)
def lostK (s:RwS) (bu:List Int) (K:Nat→Nat) (row:Int) (i:Nat):Bool:=decide (bu.getD (colR s row i).toNat 0≤row)||decide (K (colR s row i).toNat=1)
section
variable {s:RwS}{ds:List Od}{bu:List Int}{N M:Nat}{K:Nat→Nat}{f:Nat→Nat→ByteArray}
theorem MdS.secs (h:MdS s ds bu N M K f){row off:Int}(hr:0≤row∧row<s.r) (ho:0≤off∧off<s.k){c:Nat}(hc:s.c=(c:Int)) (h2:∀i,i<c→K i=2→bu.getD i 0≤row):
  ∀i:Nat,i<c→secR s ds bu row off i=if lostK s bu K row i then (noB,41) else (strB ((rwT s f row off c).getD i []),0):=fun i hi=>by
 obtain⟨q1,q2,q3⟩:=h.sec hr ho (role:=(i:Int)) (by omega) rfl
 have hcl:=(colR_nat h.ok hr (role:=(i:Int)) (by omega)).2
 rw[rwT_str s f row off hi]
 unfold lostK
 by_cases h1:bu.getD (colR s row i).toNat 0≤row
 ·rw[q1 h1,decide_eq_true h1]; rfl
 ·by_cases h3:K (colR s row i).toNat=1
  ·rw[q2 h3,decide_eq_true h3,Bool.or_true]; rfl
  ·have hlen:=h.len
   have h0:K (colR s row i).toNat=0:=by
    rcases h.co (colR s row i).toNat (by omega) with⟨e,_⟩|⟨e,_⟩|⟨e,_⟩
    ·exact e
    ·exact absurd e h3
    ·exact absurd (h2 _ (by omega) e) h1
   rw[q3 (by omega) h0,decide_eq_false h1,decide_eq_false h3]; rfl
theorem misL_nil {p:Nat→Bool}{n:Nat}(h:∀i,i<n→p i=false):misL p n=[]:=by
 unfold misL
 rw[List.map_eq_nil_iff,List.filter_eq_nil_iff]
 intro i hi
 rw[h i (List.mem_range.1 hi)]; simp
end
section
variable {a:AD}{P N M:Nat}
end
theorem zero_good {c m:Nat}(h4:4≤c) (h10:c≤10):GoodL (List.replicate c (List.replicate m 0)) m:=by
 have hl:(List.replicate c (List.replicate m (0:UInt8))).length=c:=List.length_replicate
 have hg:∀j i,col (List.replicate c (List.replicate m (0:UInt8))) j i=0:=fun j i=>by
  unfold col
  rw[List.getD_eq_getElem?_getD (l:=List.replicate c _),List.getElem?_replicate]
  split
  ·show(List.replicate m (0:UInt8)).getD j 0=0
   rw[List.getD_eq_getElem?_getD,List.getElem?_replicate]
   split<;>rfl
  ·rfl
 refine⟨by omega,by omega,fun j hj=>?_,fun j hj=>⟨?_,?_⟩⟩
 ·rw[hl]at hj
  rw[List.getD_eq_getElem?_getD,List.getElem?_replicate,if_pos hj]
  show(List.replicate m (0:UInt8)).length=m
  exact List.length_replicate
 ·unfold PRel
  rw[hg,sx_zero fun c _=>hg j c]
 ·unfold QRel
  rw[hg,sx_zero fun c _=>wq_zero (hg j c)]
end Go.Proofs.YtkknkmplmilihaaGreat
end
