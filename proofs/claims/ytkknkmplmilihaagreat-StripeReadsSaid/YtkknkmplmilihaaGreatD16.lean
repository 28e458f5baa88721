import Derived.Test.YtkknkmplmilihaaGreatD2
import Derived.Test.YtkknkmplmilihaaGreatD6
import Derived.Test.YtkknkmplmilihaaGreatD15
set_option linter.unusedSimpArgs false
set_option linter.unusedVariables false
set_option maxHeartbeats 2000000
set_option maxRecDepth 20000
section
namespace Go.Proofs.YtkknkmplmilihaaGreat
open Go.Sh Go.RowKit
def stF (s:RwS) (at_:Int) (l:List RP) (c:Nat) (f:Nat→Nat→ByteArray):Nat→Nat→ByteArray:=fun i j=>
 match (offsC s l).find? (fun o=>(sectorG s.c s.k s.r at_ o).toNat==j) with
 |some o=>strB ((rowF l o (rwT s f at_ o c)).getD (roleG s.c s.k s.r at_ i).toNat [])
 |none=>f i j
theorem flat_le {α β:Type}{f:α→List β}{m:Nat}:∀(l:List α),(∀x∈l,(f x).length≤m)→(l.flatMap f).length≤l.length*m
 |[],_=>by simp
 |x::l,h=>by
  have h1:=h x List.mem_cons_self
  have h2:=flat_le l fun y hy=>h y (List.mem_cons_of_mem _ hy)
  rw[List.flatMap_cons,List.length_append,List.length_cons,Nat.add_mul,Nat.one_mul]
  omega
theorem partR_le (s:RwS) (ds:List Od) (at_:Int) (l:List RP) (off:Int) (x:List Txt×List Int) (r:Nat):(partR s ds at_ l off x r).length≤1:=by
 unfold partR
 split<;>simp
theorem partsO_le (s:RwS) (ds:List Od) (at_:Int) (l:List RP) (off:Int) (x:List Txt×List Int):(partsO s ds at_ l off x).length≤s.c.toNat:=by
 have:=flat_le (f:=partR s ds at_ l off x) (m:=1) (List.range s.c.toNat) fun r _=>partR_le ..
 rw[List.length_range,Nat.mul_one]at this
 exact this
theorem offsC_le (s:RwS) (l:List RP):(offsC s l).length≤s.k.toNat:=by
 unfold offsC
 refine Nat.le_trans (List.length_filter_le _ _) ?_
 rw[List.length_map,List.length_range]
 exact Nat.le_refl _
theorem sec_nat {s:RwS}(hG:OkG s.c s.k s.r){at_ row o o':Int}(hat:0≤at_∧at_<s.r) (hr:0≤row∧row<s.r) (ho:0≤o∧o<s.k) (ho':0≤o'∧o'<s.k) (h:(sectorG s.c s.k s.r at_ o).toNat=(sectorG s.c s.k s.r row o').toNat):at_=row∧o=o':=by
 have h1:=sectorG_in hG hat ho
 have h2:=sectorG_in hG hr ho'
 exact sectorG_inj hG hat ho hr ho' (by omega)
section
variable {s:RwS}{at_:Int}{l:List RP}{c:Nat}{f:Nat→Nat→ByteArray}
theorem find_off (hG:OkG s.c s.k s.r) (hat:0≤at_∧at_<s.r){off:Int}(ho:0≤off∧off<s.k):(offsC s l).find? (fun o=>(sectorG s.c s.k s.r at_ o).toNat==(sectorG s.c s.k s.r at_ off).toNat)=if off∈offsC s l then some off else none:=by
 split
 ·rename_i h
  cases hf:(offsC s l).find? (fun o=>(sectorG s.c s.k s.r at_ o).toNat==(sectorG s.c s.k s.r at_ off).toNat) with
  |none=>exact absurd (by simp) (List.find?_eq_none.1 hf off h)
  |some o=>
   have h1:=List.find?_some hf
   have h2:=offsC_mem.1 (List.mem_of_find?_eq_some hf)
   rw[(sec_nat hG hat hat h2.1 ho (by simpa using h1)).2]
 ·rename_i h
  rw[List.find?_eq_none]
  intro o hm he
  have h2:=offsC_mem.1 hm
  exact h (by rw[←(sec_nat hG hat hat h2.1 ho (by simpa using he)).2]; exact hm)
theorem txt_ext {L R:List Txt}(h:L.length=R.length) (hg:∀i,i<L.length→L.getD i []=R.getD i []):L=R:=by
 refine List.ext_getElem h fun i h1 h2=>?_
 have:=hg i h1
 rw[List.getD_eq_getElem?_getD,List.getD_eq_getElem?_getD,List.getElem?_eq_getElem h1,List.getElem?_eq_getElem h2]at this
 exact this
theorem stF_row (hG:OkG s.c s.k s.r) (hat:0≤at_∧at_<s.r) (hc:s.c=(c:Int)){off:Int}(ho:0≤off∧off<s.k):rwT s (stF s at_ l c f) at_ off c=if off∈offsC s l then rowF l off (rwT s f at_ off c) else rwT s f at_ off c:=by
 have h4:=hG.1
 have hlen:(if off∈offsC s l then rowF l off (rwT s f at_ off c) else rwT s f at_ off c).length=c:=by
  split
  ·rw[rowF_len _ _ (by rw[rwT_len]; omega),rwT_len]
  ·rw[rwT_len]
 refine txt_ext (by rw[rwT_len,hlen]) fun i hi=>?_
 rw[rwT_len]at hi
 rw[rwT_get _ _ _ _ hi]
 unfold stF
 rw[find_off hG hat ho]
 have hcn:=colR_nat hG hat (role:=(i:Int)) (by omega)
 have hrole:roleG s.c s.k s.r at_ ((colR s at_ i).toNat:Int)=(i:Int):=(role_colR hG hat (by omega) (by omega)).2 hcn.1
 by_cases hm:off∈offsC s l
 ·rw[if_pos hm,if_pos hm]
  show(strB ((rowF l off (rwT s f at_ off c)).getD (roleG s.c s.k s.r at_ ((colR s at_ i).toNat:Int)).toNat [])).data.toList=_
  rw[hrole,Int.toNat_natCast]
 ·rw[if_neg hm,if_neg hm,rwT_get _ _ _ _ hi]
end
theorem MdH.congr {ds:List Od}{N:Nat}{K:Nat→Nat}{f f':Nat→Nat→ByteArray}(h:MdH ds N K f) (hf:∀i,i<ds.length→K i=0→∀j,j<N→f' i j=f i j):MdH ds N K f':=fun i hi h0=>by
 obtain⟨p,a,hk,ha⟩:=h i hi h0
 exact⟨p,a,hk,ha.on,ha.pend,ha.sp,fun j hj=>by rw[hf i hi h0 j hj]; exact ha.safe j hj⟩
section
variable {s:RwS}{ds:List Od}{bu:List Int}{N M:Nat}{K:Nat→Nat}{f:Nat→Nat→ByteArray}{at_:Int}{l:List RP}{c:Nat}
def goodP (s:RwS) (ds:List Od) (bu:List Int) (K:Nat→Nat) (f:Nat→Nat→ByteArray) (at_:Int) (l:List RP) (c:Nat):List RP:=(offsC s l).flatMap fun o=>partsO s ds at_ l o (rwT s f at_ o c,misL (lostK s bu K at_) c)
theorem goodP_mem (hc:s.c=(c:Int)){y:RP}:y∈goodP s ds bu K f at_ l c↔∃o∈offsC s l,∃r:Nat,r<c∧wantB l o (c-2) (misL (lostK s bu K at_) c) r=true∧(thereO ds (colR s at_ r).toNat).isSome=true∧y=⟨colR s at_ r,o,(rowF l o (rwT s f at_ o c)).getD r []⟩:=by
 unfold goodP
 rw[List.mem_flatMap]
 simp only[partsO_mem,rwT_len,hc,Int.toNat_natCast]
theorem goodP_apart (hG:OkG s.c s.k s.r) (hat:0≤at_∧at_<s.r) (hc:s.c=(c:Int)):(goodP s ds bu K f at_ l c).Pairwise fun x y=>¬(x.col=y.col∧x.off=y.off):=by
 unfold goodP
 rw[List.pairwise_flatMap]
 refine⟨fun o ho=>?_,(offsC_nodup s l).imp fun {a b} hab x hx y hy e=>?_⟩
 ·unfold partsO
  rw[List.pairwise_flatMap]
  refine⟨fun r hr=>?_,?_⟩
  ·unfold partR
   split
   ·exact List.pairwise_singleton _ _
   ·exact List.Pairwise.nil
  ·refine List.Pairwise.imp_of_mem ?_ List.nodup_range
   intro a b ha hb hab x hx y hy e
   have ha:=List.mem_range.1 ha
   have hb:=List.mem_range.1 hb
   have h1:x.col=colR s at_ a:=by
    unfold partR at hx
    split at hx
    ·rw[List.mem_singleton.1 hx]
    ·cases hx
   have h2:y.col=colR s at_ b:=by
    unfold partR at hy
    split at hy
    ·rw[List.mem_singleton.1 hy]
    ·cases hy
   have:=colR_inj hG hat (a:=(a:Int)) (b:=(b:Int)) (by omega) (by omega) (by rw[←h1,←h2]; exact e.1)
   omega
 ·obtain⟨_,_,_,_,rfl⟩:=partsO_mem.1 hx
  obtain⟨_,_,_,_,rfl⟩:=partsO_mem.1 hy
  exact hab e.2
theorem apply_mds (h:MdS s ds bu N M K f) (hK:∀i,i<ds.length→K i≠2) (hat:0≤at_∧at_<s.r) (hc:s.c=(c:Int)) (hG:∀off,0≤off∧off<s.k→GoodL (rwT s f at_ off c) 64) (h2:(misL (lostK s bu K at_) c).length≤2)
  (hl:∀x∈l,(0≤x.col∧x.col<s.c-2)∧(0≤x.off∧x.off<s.k)∧x.data.length=64) (hn:(l.map fun x=>(x.off,x.col)).Nodup):
  partsF s ds bu at_ l=.ok (goodP s ds bu K f at_ l c)∧(goodP s ds bu K f at_ l c).length≤40∧(goodP s ds bu K f at_ l c≠[]→PlacedR at_ (goodP s ds bu K f at_ l c)∧LoadedR (goodP s ds bu K f at_ l c))∧
   (putF s ds bu at_ (goodP s ds bu K f at_ l c)).1=0∧MdS s (putF s ds bu at_ (goodP s ds bu K f at_ l c)).2 bu N (M+40) K (stF s at_ l c f)∧MdH (putF s ds bu at_ (goodP s ds bu K f at_ l c)).2 N K (stF s at_ l c f)∧(putF s ds bu at_ (goodP s ds bu K f at_ l c)).2.length=ds.length:=by
 have hM:=h.may
 have hok:=h.ok
 have hlen:=h.len
 obtain⟨o1,o2,o3,o4,o5,o6⟩:=hok
 have hco:OkC s ds bu l:=⟨hM,hl,hn⟩
 have hfil:∀o∈offsC s l,filR s ds bu at_ o=.ok (rwT s f at_ o c,misL (lostK s bu K at_) c):=fun o ho=>by
  have ho:=(offsC_mem.1 ho).1
  rw[filR_of hM hat ho hc (rwT_len ..) (hG o ho) _ (h.secs hat ho hc fun i hi e=>absurd e (hK i (by omega))),if_pos h2]
 have hmem:=fun y=>goodP_mem (s:=s) (ds:=ds) (bu:=bu) (K:=K) (f:=f) (at_:=at_) (l:=l) (c:=c) hc (y:=y)
 have hap:=goodP_apart (s:=s) (ds:=ds) (bu:=bu) (K:=K) (f:=f) (at_:=at_) (l:=l) (c:=c) h.ok hat hc
 have hpf:partsF s ds bu at_ l=.ok (goodP s ds bu K f at_ l c):=by
  unfold partsF
  rw[if_neg (fun hh=>hh hco),if_neg (by omega),partsG_ok _ hfil]
  rfl
 have hp40:(goodP s ds bu K f at_ l c).length≤40:=by
  have q1:=flat_le (f:=fun o=>partsO s ds at_ l o (rwT s f at_ o c,misL (lostK s bu K at_) c)) (m:=10) (offsC s l) fun o _=>Nat.le_trans (partsO_le ..) (by omega)
  have q2:=offsC_le s l
  have:(goodP s ds bu K f at_ l c).length≤(offsC s l).length*10:=q1
  omega
 generalize goodP s ds bu K f at_ l c=p at hmem hap hpf hp40
 have hin:∀y∈p,(0≤y.col∧y.col<s.c)∧(0≤y.off∧y.off<s.k)∧y.data.length=64:=fun y hy=>by
  obtain⟨o,ho,r,hr,_,_,rfl⟩:=(hmem y).1 hy
  have ho:=(offsC_mem.1 ho).1
  have hcn:=colR_nat h.ok hat (role:=(r:Int)) (by omega)
  refine⟨⟨by show 0≤colR s at_ r; omega,by show colR s at_ r<s.c; omega⟩,ho,?_⟩
  have hg:=rowF_good (l:=l) (off:=o) (hG o ho) fun x hx=>(hl x hx).2.2
  exact hg.all r (by rw[rowF_len _ _ (by rw[rwT_len]; omega),rwT_len]; exact hr)
 have hwr:∀y∈p,wrongP s y=false:=fun y hy=>by
  have:=hin y hy
  unfold wrongP
  exact decide_eq_false (by omega)
 refine⟨hpf,hp40,fun hne=>⟨⟨by omega,by omega,by have:=List.length_pos_iff.2 hne; omega,hp40,fun y hy=>by have:=hin y hy; omega,?_⟩,fun y hy=>(hin y hy).2.2⟩,?_⟩
 ·rw[List.Nodup,List.pairwise_map]
  exact hap.imp fun {a b} hab e=>hab ⟨(Prod.mk.inj e).1,(Prod.mk.inj e).2⟩
 obtain⟨g1,g2,g3⟩:=put_mds hat p h hK hwr
 have hMay:=g2.may
 have hany:p.any (wrongP s)=false:=by
  rw[List.any_eq_false]
  intro y hy
  rw[hwr y hy]; decide
 have hno:=g2.no42 fun i hi=>hK i (by rw[g3]at hi; exact hi)
 obtain⟨f1,f2⟩:=g2.flush
 have hval:∀i,i<ds.length→K i=0→∀j,j<N→stF s at_ l c f i j=upL s at_ p f i j:=fun i hi h0 j hj=>by
  obtain⟨r,hr,hri⟩:=colR_surj h.ok hat (g:=i) (by omega)
  have hcn:=colR_nat h.ok hat (role:=(r:Int)) (by omega)
  have hrole:roleG s.c s.k s.r at_ (i:Int)=(r:Int):=(role_colR h.ok hat (by omega) (by omega)).2 (by omega)
  obtain⟨pp,a,hk,hlv,ht⟩:=h.there hi h0
  unfold stF
  cases hf:(offsC s l).find? (fun o=>(sectorG s.c s.k s.r at_ o).toNat==j) with
  |none=>
   refine(upL_not p f fun x hx e=>?_).symm
   obtain⟨o,ho,_,_,_,_,rfl⟩:=(hmem x).1 hx
   exact List.find?_eq_none.1 hf o ho (by simpa using e.2)
  |some o=>
   have hoj:(sectorG s.c s.k s.r at_ o).toNat=j:=by have:=List.find?_some hf; simpa using this
   have hom:=List.mem_of_find?_eq_some hf
   have ho:=(offsC_mem.1 hom).1
   show strB ((rowF l o (rwT s f at_ o c)).getD (roleG s.c s.k s.r at_ i).toNat [])=_
   rw[hrole,Int.toNat_natCast]
   cases hw:wantB l o (c-2) (misL (lostK s bu K at_) c) r with
   |true=>
    have hy:(⟨colR s at_ r,o,(rowF l o (rwT s f at_ o c)).getD r []⟩:RP)∈p:=(hmem _).2 ⟨o,hom,r,by omega,hw,by rw[hri,ht]; rfl,rfl⟩
    have hpw:p.Pairwise (fun x y=>¬(x.col.toNat=y.col.toNat∧(sectorG s.c s.k s.r at_ x.off).toNat=(sectorG s.c s.k s.r at_ y.off).toNat)):=by
     refine List.Pairwise.imp_of_mem ?_ hap
     intro x y hx hy' hxy e
     have q1:=hin x hx
     have q2:=hin y hy'
     exact hxy ⟨by have:=e.1; omega,(sec_nat h.ok hat hat q1.2.1 q2.2.1 e.2).2⟩
    have:=upL_hit p f hpw _ hy
    simp only[hri,hoj]at this
    exact this.symm
   |false=>
    rw[rowF_not (L:=rwT s f at_ o c) (lost:=misL (lostK s bu K at_) c) (by rw[rwT_len]; exact hw),rwT_str _ _ _ _ (by omega),hri,hoj]
    refine(upL_not p f fun x hx e=>?_).symm
    obtain⟨o',ho',r',hr',hw',_,rfl⟩:=(hmem x).1 hx
    have q:=sec_nat h.ok hat hat (offsC_mem.1 ho').1 ho (by have:=e.2; rw[hoj]; exact this)
    have q2:=colR_nat h.ok hat (role:=(r':Int)) (by omega)
    have q3:colR s at_ r'=colR s at_ r:=by have q0:(colR s at_ r').toNat=i:=e.1; omega
    have q4:=colR_inj h.ok hat (a:=(r':Int)) (b:=(r:Int)) (by omega) (by omega) q3
    have q5:r'=r:=by omega
    rw[q.2,q5,hw]at hw'
    cases hw'
 have e1:putF s ds bu at_ p=(0,(putW s at_ p ds).2.map flushO):=by
  unfold putF
  rw[if_neg (by rw[hany]; intro hh; rcases hh with hh|hh; exact hh hM; cases hh),if_neg (by omega),if_neg (by rw[g1]; decide),if_pos hMay,if_pos hMay,hno]
  rfl
 rw[e1]
 refine⟨rfl,?_,?_,?_⟩
 ·refine(f1.mono (by omega)).congr (fun i hi=>rfl) fun i hi h0 j hj=>hval i ?_ h0 j hj
  have:((putW s at_ p ds).2.map flushO).length=(putW s at_ p ds).2.length:=List.length_map ..
  omega
 ·refine f2.congr fun i hi h0 j hj=>hval i ?_ h0 j hj
  have:((putW s at_ p ds).2.map flushO).length=(putW s at_ p ds).2.length:=List.length_map ..
  omega
 ·show((putW s at_ p ds).2.map flushO).length=_
  rw[List.length_map,g3]
end
end Go.Proofs.YtkknkmplmilihaaGreat
end
section
namespace Go.Sh
open Go.RowKit
theorem lookup2_ints {P:Program}{t kt e:TypeId}{z:Value}{w:World}(ht:P.underlying t=some (.map kt e)) (hk:P.underlying kt=some (.int .i64)) (hz:(zeroValue e).run P w=.ok z w){b clock:Nat}{l:List Ent}(hb:w.heap[b]?=some (.map (l.map ent).toArray clock)) (k:Int):
  (Instr.lookup t (.map (some b)) (.int .i64 k) true).run P w=.ok (.tuple #[(getK k l).getD z,.bool (getK k l).isSome]) w:=by
 have h1:=checkKey_int (P:=P) hk (l.map ent).toArray.isEmpty k w
 have h2:=findKey_ints (P:=P) hk k l w
 have h3:=findAt_getK k l 0
 simp only[Instr.lookup,Sem.run_bind,run_underlying ht,Result.andThen_ok,getObj,Sem.run,hb,Sem.run_pure,h1,h2]
 cases hf:findAt k l 0 with
 |none=>rw[hf]at h3; simp[←h3,hz]
 |some x=>rw[hf]at h3; simp[←h3]
theorem getQ_set {i j:Int}{v:Value}:∀(l:List Ent),(getK i l).isSome=true→getK j (setK i v l)=if j=i then some v else getK j l
 |[],h=>by cases h
 |x::l,h=>by
  simp only[setK,getK]
  by_cases hx:x.1=i
  ·rw[if_pos hx]
   simp only[getK]
   by_cases hj:j=i
   ·rw[if_pos hj,if_pos hj.symm]
   ·rw[if_neg fun e=>hj e.symm,if_neg hj,if_neg fun e=>hj (e.symm.trans hx)]
  ·rw[if_neg hx]
   have h':(getK i l).isSome=true:=by simpa[getK,hx] using h
   simp only[getK,getQ_set l h']
   by_cases hj:x.1=j
   ·rw[if_pos hj,if_neg fun e=>hx (hj.trans e),if_pos hj]
   ·rw[if_neg hj,if_neg hj]
theorem getQ_snoc {j i:Int}{v:Value}{c:Nat}:∀(l:List Ent),(getK i l).isSome=false→getK j (l++[(i,v,c)])=if j=i then some v else getK j l
 |[],_=>by
  simp only[List.nil_append,getK]
  by_cases hj:j=i
  ·rw[if_pos hj,if_pos hj.symm]
  ·rw[if_neg fun e=>hj e.symm,if_neg hj]
 |x::l,h=>by
  simp only[List.cons_append,getK]
  by_cases hx:x.1=i
  ·simp[getK,hx]at h
  ·have h':(getK i l).isSome=false:=by simpa[getK,hx] using h
   rw[getQ_snoc l h']
   by_cases hj:x.1=j
   ·rw[if_pos hj,if_neg fun e=>hx (hj.trans e),if_pos hj]
   ·rw[if_neg hj,if_neg hj]
theorem getQ_put {i j:Int}{v:Value}{l:List Ent}{c:Nat}:getK j (putK i v l c)=if j=i then some v else getK j l:=by
 unfold putK
 split
 ·rename_i h; exact getQ_set l h
 ·rename_i h; exact getQ_snoc l (by simpa using h)
section
variable {P:Program}{F:List Nat}{w0 w:World}{Γ:List A}{t kt e:TypeId}{b clock:Nat}{l:List Ent}
theorem T.look (hT:T F w0 w Γ) (hm:mapP b l clock∈Γ) (ht:P.underlying t=some (.map kt e)) (hk:P.underlying kt=some (.int .i64)){z:Value}(hz:(zeroValue e).run P w=.ok z w) (k:Int):(Instr.lookup t (.map (some b)) (.int .i64 k) false).run P w=.ok ((getK k l).getD z) w:=lookup_ints ht hk hz (hT.got hm) k
theorem T.look2 (hT:T F w0 w Γ) (hm:mapP b l clock∈Γ) (ht:P.underlying t=some (.map kt e)) (hk:P.underlying kt=some (.int .i64)){z:Value}(hz:(zeroValue e).run P w=.ok z w) (k:Int):(Instr.lookup t (.map (some b)) (.int .i64 k) true).run P w=.ok (.tuple #[(getK k l).getD z,.bool (getK k l).isSome]) w:=lookup2_ints ht hk hz (hT.got hm) k
end
def zE {α:Type}(key:α→Int) (val:α→Value) (L:List α):List Ent:=L.zipIdx.map fun x=>(key x.1,val x.1,x.2)
abbrev zP {α:Type}(key:α→Int) (val:α→Value) (b:Nat) (L:List α):A:=mapP b (zE key val L) L.length
section
variable {α:Type}{key:α→Int}{val:α→Value}
theorem zE_getN (k:Int):∀(L:List α) (n:Nat),getK k ((L.zipIdx n).map fun x=>((key x.1,val x.1,x.2):Ent))=(L.find? fun y=>key y==k).map val
 |[],_=>rfl
 |y::L,n=>by
  simp only[List.zipIdx_cons,List.map_cons,getK,List.find?_cons]
  by_cases h:key y=k
  ·rw[if_pos h]
   have:(key y==k)=true:=by simpa using h
   rw[this]; rfl
  ·rw[if_neg h]
   have:(key y==k)=false:=by simpa using h
   rw[this]
   exact zE_getN k L (n+1)
theorem zE_get (k:Int) (L:List α):getK k (zE key val L)=(L.find? fun y=>key y==k).map val:=zE_getN k L 0
theorem zE_snoc (L:List α) (y:α):zE key val (L++[y])=zE key val L++[(key y,val y,L.length)]:=by
 simp[zE,List.zipIdx_append]
theorem zE_put {L:List α}{y:α}(h:L.find? (fun z=>key z==key y)=none):putK (key y) (val y) (zE key val L) L.length=zE key val (L++[y])∧clockK (key y) (zE key val L) L.length=(L++[y]).length:=by
 have hg:getK (key y) (zE key val L)=none:=by rw[zE_get,h]; rfl
 refine⟨?_,?_⟩
 ·unfold putK
  rw[hg,zE_snoc]; rfl
 ·unfold clockK
  rw[hg,List.length_append]; rfl
theorem zE_len (L:List α):(zE key val L).length=L.length:=by simp[zE]
theorem zE_keys (L:List α):(zE key val L).map (·.1)=L.map key:=by
 unfold zE
 rw[List.map_map]
 have:((fun x:Ent=>x.1)∘fun x:α×Nat=>((key x.1,val x.1,x.2):Ent))=key∘Prod.fst:=rfl
 rw[this,←List.map_map,List.zipIdx_map_fst]
theorem zE_births (L:List α):(zE key val L).map (·.2.2)=List.range L.length:=by
 unfold zE
 rw[List.map_map]
 have:((fun x:Ent=>x.2.2)∘fun x:α×Nat=>((key x.1,val x.1,x.2):Ent))=Prod.snd:=rfl
 rw[this,List.zipIdx_map_snd,List.range_eq_range']
theorem zE_born {L:List α}:∀x∈zE key val L,x.2.2<L.length:=fun x hx=>by
 have:x.2.2∈(zE key val L).map (·.2.2):=List.mem_map_of_mem hx
 rw[zE_births]at this
 exact List.mem_range.1 this
theorem zE_has {L:List α}{q:Nat}{y:α}(h:L[q]?=some y):((key y,val y,q):Ent)∈zE key val L:=List.mem_map.2 ⟨(y,q),List.mem_zipIdx_iff_getElem?.2 h,rfl⟩
theorem zE_mem {L:List α}{x:Ent}(hx:x∈zE key val L):∃y,L[x.2.2]?=some y∧x.1=key y∧x.2.1=val y:=by
 unfold zE at hx
 obtain⟨z,hz,rfl⟩:=List.mem_map.1 hx
 have:=List.mem_zipIdx_iff_getElem?.1 hz
 exact⟨z.1,this,rfl,rfl⟩
end
end Go.Sh
end
section
namespace Go.Proofs.YtkknkmplmilihaaGreat
open Go.Sh Go.RowKit
theorem there17_spec {s:RwS}{ds:List Od}{bu:List Int}{w:World}(h:RwW s ds bu w){col:Int}(hc:0≤col∧col<(ds.length:Int)){m:Nat}:Ret Tp 56 #[.agg (rwC s ds.length m),.int .i64 col] w (.bool (thereO ds col.toNat).isSome):=by
 obtain⟨cn,rfl⟩:∃cn:Nat,col=(cn:Int):=⟨col.toNat,by omega⟩
 rw[Int.toNat_natCast]
 refine ret_of (stripe_there_calls ?_)
 unfold stripe_there
 refine Alloc.t (T.nil w) fun k1 w1 h1=>?_
 have h1:T [] w w1 [blk k1 (rwC s ds.length m) 31]:=h1
 have hy:ds[cn]?=some (ds[cn]'(by omega)):=List.getElem?_eq_getElem (by omega)
 have hth:thereO ds cn=match ds[cn]'(by omega) with
  |some x=>if x.2.dead then none else some x
  |none=>none:=by unfold thereO; rw[List.getD_eq_getElem?_getD,hy]; rfl
 generalize ds[cn]'(by omega)=y at hy hth
 obtain⟨a,ha,hcell⟩:=(h.ext h1.chg.ext).pd.get (blks_get hy)
 refine⟨_,_,_,h1.ld (c:=rwC s ds.length m) (i:=3) (by repeat constructor) rfl,a,ha,by omega,by omega,_,by rw[Int.toNat_natCast]; exact hcell,?_⟩
 rw[hth]
 cases y with
 |none=>exact no rfl ⟨rfl,h1.chg.ext⟩
 |some x=>
  obtain⟨p,ad⟩:=x
  obtain⟨F,w0',X,hd⟩:=(h.ext h1.chg.ext).drive hy
  refine yes rfl ⟨_,_,_,h1.ld (c:=rwC s ds.length m) (i:=3) (by repeat constructor) rfl,a,ha,by omega,by omega,_,by rw[Int.toNat_natCast]; exact hcell,?_⟩
  refine(dead_a hd).mono fun e w2 ⟨he,hx⟩=>⟨_,he,?_,h1.chg.ext.trans hx⟩
  show Value.bool (!ad.dead)=Value.bool (if ad.dead then none else some (p,ad)).isSome
  cases ad.dead<;>rfl
def rolesL (s:RwS) (at_:Int) (C i:Nat):List Int:=(List.range C).map fun r:Nat=>if colR s at_ r<(i:Int) then colR s at_ r else 0
theorem rolesL_len (s:RwS) (at_:Int) (C i:Nat):(rolesL s at_ C i).length=C:=by simp[rolesL]
theorem roles17_spec {s:RwS}(hG:OkG s.c s.k s.r){at_:Int}(hat:0≤at_∧at_<s.r){C:Nat}(hC:s.c=(C:Int)) (w:World):
  Calls Tp 51 #[.agg #[.int .i64 s.c,.int .i64 s.k,.int .i64 s.r],.int .i64 at_] w fun e w'=>∃g,e=.returned (.slice (some ⟨g,0,none⟩) C C)∧T [] w w' [rowP 3 1 (some g) C C (intsI ((List.range C).map fun r:Nat=>colR s at_ r))]:=by
 refine(stripe_roles_calls (R:=fun v w'=>∃g,v=.slice (some ⟨g,0,none⟩) C C∧T [] w w' [rowP 3 1 (some g) C C (intsI ((List.range C).map fun r:Nat=>colR s at_ r))]) ?_).mono fun e w' ⟨v,he,g,hv,h⟩=>⟨g,by rw[he,hv],h⟩
 unfold stripe_roles
 have h10:=hG.2.1
 refine Alloc.t (T.nil w) fun k2 w1 h1=>⟨_,h1.ld (b:=k2) (by repeat constructor) rfl,?_⟩
 obtain⟨g,w2,hr,h2⟩:=make_t (P:=Tp) (t:=29) (e:=3) (i:=Tryz.t3) (z:=.int .i64 0) (kl:=.i64) (kc:=.i64) (n:=s.c) (c:=s.c) (by kernel_rfl) (by kernel_rfl) (by kernel_rfl) (by kernel_rfl) (by kernel_rfl) (by kernel_rfl) (by omega) (by omega) (by omega) h1
 have hCt:s.c.toNat=C:=by omega
 rw[hCt]at hr h2
 refine⟨_,_,_,w2,hr,?_⟩
 have e0:List.replicate C ((Value.int .i64 0).cells.getD 0 undef)=intsI (rolesL s at_ C 0):=by
  unfold intsI rolesL
  rw[List.map_map]
  refine List.ext_getElem (by simp) fun j q1 q2=>?_
  rw[List.getElem_replicate,List.getElem_map,List.getElem_range]
  have hj:j<C:=by simpa using q1
  have:=colR_in hG hat (role:=(j:Int)) (by omega)
  show Value.int .i64 0=Value.int .i64 (if colR s at_ j<((0:Nat):Int) then _ else 0)
  rw[if_neg (by omega)]
 rw[e0]at h2
 refine⟨fun vs w'=>∃i:Nat,vs=[.int .i64 (i:Int)]∧i≤C∧T [] w w' [rowP 3 1 (some g) C C (intsI (rolesL s at_ C i)),blk k2 #[.int .i64 s.c,.int .i64 s.k,.int .i64 s.r] 26],fun vs _=>match vs with|[.int _ i]=>(C-i).toNat|_=>0,⟨0,rfl,by omega,h2⟩,?_⟩
 rintro vs w3 ⟨i,rfl,hi,h3⟩
 refine⟨_,rfl,dec_t fun hlt=>?_,dec_f fun hge=>?_⟩
 ·refine⟨_,_,_,⟨h3.ld (b:=k2) (by repeat constructor) rfl,h3.ld (b:=k2) (by repeat constructor) rfl,h3.ld (b:=k2) (by repeat constructor) rfl⟩,?_⟩
  refine(role_spec s.c s.k s.r at_ i w3).mono fun e w4 ⟨he4,hx4⟩=>⟨_,he4,_,rfl,?_⟩
  have h4:=h3.quiet hx4
  obtain⟨r,hr',hri⟩:=colR_surj hG hat (g:=i) (by omega)
  have hcn:=colR_nat hG hat (role:=(r:Int)) (by omega)
  have hrole:roleG s.c s.k s.r at_ (i:Int)=(r:Int):=(role_colR hG hat (by omega) (by omega)).2 (by omega)
  try dsimp only
  rw[hrole]
  refine⟨by omega,by omega,?_⟩
  rw[Int.toNat_natCast]
  refine StRow1.t h4 .head (by rw[intsI_len,rolesL_len]; omega) rfl fun w5 h5=>?_
  rw[intsI_set]at h5
  have e1:(rolesL s at_ C i).set r (i:Int)=rolesL s at_ C (i+1):=by
   refine List.ext_getElem (by simp[rolesL]) fun j q1 q2=>?_
   have hj:j<C:=by rw[rolesL_len]at q2; exact q2
   have hcj:=colR_nat hG hat (role:=(j:Int)) (by omega)
   rw[List.getElem_set]
   simp only[rolesL,List.getElem_map,List.getElem_range]
   by_cases e:r=j
   ·subst e
    rw[if_pos rfl,if_pos (by omega)]
    omega
   ·rw[if_neg e]
    have hne:colR s at_ j≠(i:Int):=fun e2=>e (by
     have:=colR_inj hG hat (a:=(r:Int)) (b:=(j:Int)) (by omega) (by omega) (by omega)
     omega)
    by_cases hlt2:colR s at_ j<(i:Int)
    ·rw[if_pos hlt2,if_pos (by omega)]
    ·rw[if_neg hlt2,if_neg (by omega)]
  rw[e1]at h5
  refine⟨⟨i+1,by rw[wrap64 _ (by omega) (by omega)]; rfl,by omega,h5⟩,?_⟩
  show((C:Int)-IntKind.i64.wrap ((i:Int)+1)).toNat<((C:Int)-(i:Int)).toNat
  rw[wrap64 _ (by omega) (by omega)]; omega
 ·obtain rfl:i=C:=by omega
  have e1:rolesL s at_ i i=(List.range i).map fun r:Nat=>colR s at_ r:=by
   unfold rolesL
   refine List.map_congr_left fun r hr=>?_
   have:=colR_in hG hat (role:=(r:Int)) (by have:=List.mem_range.1 hr; omega)
   rw[if_pos (by omega)]
  rw[e1]at h3
  exact⟨g,rfl,T.drop (h3.swap (.swap _ _ _))⟩
abbrev esC (l:List RP) (o:Int):List RP:=l.filter fun x=>x.off==o
abbrev inP (b:Nat) (es:List RP):A:=zP RP.col (fun x=>.string (strB x.data)) b es
abbrev ouP (b:Nat) (G:List (Int×Nat)):A:=zP Prod.fst (fun y=>.map (some y.2)) b G
def insP (l:List RP) (G:List (Int×Nat)):List A:=G.map fun y=>inP y.2 (esC l y.1)
def GrpOk (l:List RP) (G:List (Int×Nat)):Prop:=(G.map (·.1)).Nodup∧∀o,o∈G.map (·.1)↔∃x∈l,x.off=o
theorem esC_nil {l:List RP}{o:Int}(h:¬∃x∈l,x.off=o):esC l o=[]:=by
 rw[List.filter_eq_nil_iff]
 intro x hx he
 exact h ⟨x,hx,by simpa using he⟩
theorem esC_snoc (l:List RP) (x:RP) (o:Int):esC (l++[x]) o=if x.off=o then esC l o++[x] else esC l o:=by
 unfold esC
 rw[List.filter_append]
 by_cases h:x.off=o
 ·rw[if_pos h]; simp[h]
 ·rw[if_neg h]; simp[h]
theorem insP_app (l:List RP) (G H:List (Int×Nat)):insP l (G++H)=insP l G++insP l H:=List.map_append
theorem insP_other {l:List RP}{x:RP}{G:List (Int×Nat)}(h:x.off∉G.map (·.1)):insP (l++[x]) G=insP l G:=by
 unfold insP
 refine List.map_congr_left fun y hy=>?_
 rw[esC_snoc,if_neg fun e=>h (List.mem_map.2 ⟨y,hy,e.symm⟩)]
theorem find_key {G:List (Int×Nat)}{o:Int}(h:o∈G.map (·.1)):∃b,G.find? (fun y=>y.1==o)=some (o,b):=by
 cases hf:G.find? (fun y=>y.1==o) with
 |none=>
  obtain⟨y,hy,he⟩:=List.mem_map.1 h
  exact absurd (by simpa using he) (List.find?_eq_none.1 hf y hy)
 |some y=>
  have:=List.find?_some hf
  have h1:y.1=o:=by simpa using this
  exact⟨y.2,by rw[←h1]⟩
theorem byPlace_spec {s:RwS}{ds:List Od}{bu:List Int}{w:World}(h:RwW s ds bu w) (hdl:ds.length≤1000000){p:Option Addr}{c:Nat}{l:List RP}(hp:partsAt w p l) (hll:l.length≤1000000):
  Calls Tp 50 #[.agg (rwC s ds.length bu.length),.slice p l.length c] w fun e w'=>(¬OkC s ds bu l∧(∃b,e=.returned (.tuple #[.map (some b),.bool false]))∧Ext w w')∨(OkC s ds bu l∧∃b G,GrpOk l G∧e=.returned (.tuple #[.map (some b),.bool true])∧T [] w w' (ouP b G::insP l G)):=by
 refine(stripe_byPlace_calls (R:=fun v w'=>(¬OkC s ds bu l∧(∃b,v=.tuple #[.map (some b),.bool false])∧Ext w w')∨(OkC s ds bu l∧∃b G,GrpOk l G∧v=.tuple #[.map (some b),.bool true]∧T [] w w' (ouP b G::insP l G))) ?_).mono fun e w' ⟨v,he,hv⟩=>?_
 rotate_left
 ·rcases hv with⟨h1,⟨b,h2⟩,h3⟩|⟨h1,b,G,h2,h3,h4⟩
  ·exact .inl ⟨h1,⟨b,by rw[he,h2]⟩,h3⟩
  ·exact .inr ⟨h1,b,G,h2,by rw[he,h3],h4⟩
 unfold stripe_byPlace
 refine Alloc.t (T.nil w) fun k2 w1 h1=>AllocM.t h1 fun k11 w2 h2=>?_
 have h2:T [] w w2 (ouP k11 []::[blk k2 (rwC s ds.length bu.length) 31]):=h2
 have c2:∀{w':World} {Γ:List A},T [] w w' Γ→blk k2 (rwC s ds.length bu.length) 31∈Γ→∀i v,(rwC s ds.length bu.length)[i]?=some v→w'.cell? ⟨k2,i,none⟩=some v:=fun h' hm i v hv=>h'.ld hm hv
 have bad:∀w',Ext w w'→¬OkC s ds bu l→(fun v w'=>(¬OkC s ds bu l∧(∃b,v=Value.tuple #[.map (some b),.bool false])∧Ext w w')∨(OkC s ds bu l∧∃b G,GrpOk l G∧v=.tuple #[.map (some b),.bool true]∧T [] w w' (ouP b G::insP l G))) (.tuple #[.map (some k11),.bool false]) w':=fun w' hx hn=>.inl ⟨hn,⟨k11,rfl⟩,hx⟩
 have good:∀w' G,OkC s ds bu l→GrpOk l G→T [] w w' (ouP k11 G::insP l G)→(fun v w'=>(¬OkC s ds bu l∧(∃b,v=Value.tuple #[.map (some b),.bool false])∧Ext w w')∨(OkC s ds bu l∧∃b G,GrpOk l G∧v=.tuple #[.map (some b),.bool true]∧T [] w w' (ouP b G::insP l G))) (.tuple #[.map (some k11),.bool true]) w':=fun w' G h1 h2 h3=>.inr ⟨h1,k11,G,h2,rfl,h3⟩
 generalize (fun v w'=>(¬OkC s ds bu l∧(∃b,v=Value.tuple #[.map (some b),.bool false])∧Ext w w')∨(OkC s ds bu l∧∃b G,GrpOk l G∧v=.tuple #[.map (some b),.bool true]∧T [] w w' (ouP b G::insP l G)))=R at bad good⊢
 refine⟨_,_,_,_,_,_,_,_,_,⟨c2 h2 (by repeat constructor) 0 _ rfl,c2 h2 (by repeat constructor) 1 _ rfl,c2 h2 (by repeat constructor) 2 _ rfl,c2 h2 (by repeat constructor) 3 _ rfl,c2 h2 (by repeat constructor) 4 _ rfl⟩,?_⟩
 refine(may16_spec (h.ext h2.chg.ext) hdl).mono fun e w3 ⟨he3,hx3⟩=>⟨_,he3,?_⟩
 have h3:=h2.quiet hx3
 by_cases hM:RMay s ds bu
 rotate_left
 ·rw[decide_eq_false hM]
  exact yes rfl (bad w3 h3.chg.ext fun hh=>hM hh.1)
 rw[decide_eq_true hM]
 refine no rfl ?_
 have hG:=hM.1
 have hz1:∀w:World,(zeroValue 43).run Tp w=.ok (.map none) w:=fun w=>by kernel_rfl
 have hz2:∀w:World,(zeroValue 9).run Tp w=.ok (.string (ByteArray.mk #[])) w:=fun w=>by kernel_rfl
 refine⟨fun vs w'=>∃(i:Nat) (G:List (Int×Nat)),vs=[.int .i64 (i:Int)]∧i≤l.length∧(∀x∈l.take i,(0≤x.col∧x.col<s.c-2)∧(0≤x.off∧x.off<s.k)∧x.data.length=64)∧((l.take i).map fun x=>(x.off,x.col)).Nodup∧GrpOk (l.take i) G∧T [] w w' (blk k2 (rwC s ds.length bu.length) 31::ouP k11 G::insP (l.take i) G),
  fun vs _=>match vs with|[.int _ i]=>(l.length-i).toNat|_=>0,⟨0,[],rfl,by omega,by simp,by simp,⟨by simp,by simp⟩,h3.swap (.swap _ _ _)⟩,?_⟩
 rintro vs w4 ⟨i,G,rfl,hi,hv,hnd,hgr,h4⟩
 refine⟨_,rfl,dec_t fun hlt=>?_,dec_f fun hge=>?_⟩
 rotate_left
 ·obtain rfl:i=l.length:=by omega
  rw[List.take_length]at hv hnd hgr h4
  exact good w4 G ⟨hM,hv,hnd⟩ hgr (T.drop h4)
 have hlt:i<l.length:=by omega
 obtain⟨a,ha,q0,q1,q2⟩:=(hp.ext h4.chg.ext).get hlt
 have htake:l.take (i+1)=l.take i++[l[i]]:=by rw[List.take_add_one,List.getElem?_eq_getElem hlt]; rfl
 have hxm:l[i]∈l:=List.getElem_mem hlt
 have hdup:(l[i].off,l[i].col)∈(l.take i).map (fun x=>(x.off,x.col))→¬OkC s ds bu l:=fun hm hh=>by
  have hn:=hh.2.2
  have e:l.map (fun x=>(x.off,x.col))=(l.take (i+1)).map (fun x=>(x.off,x.col))++(l.drop (i+1)).map (fun x=>(x.off,x.col)):=by rw[←List.map_append,List.take_append_drop]
  rw[e,htake,List.map_append]at hn
  have hn:=(List.nodup_append.1 hn).1
  exact(List.nodup_append.1 hn).2.2 _ hm _ (by simp) rfl
 have hnot:¬((0≤l[i].col∧l[i].col<s.c-2)∧(0≤l[i].off∧l[i].off<s.k)∧l[i].data.length=64)→¬OkC s ds bu l:=fun hn hh=>hn (hh.2.1 _ hxm)
 generalize l[i]=x at q0 q1 q2 htake hdup hnot
 refine⟨a,ha,by omega,by omega,x.col,x.off,strB x.data,⟨by rw[Int.toNat_natCast]; exact q0,by rw[Int.toNat_natCast]; exact q1,by rw[Int.toNat_natCast]; exact q2⟩,?_⟩
 refine Alloc.t h4 fun k8 w5 h5=>St3.t (y:=x) h5 fun w6 h6=>?_
 have c8:∀{w':World} {Γ:List A},T [] w w' (blk k8 (rpC x) 47::Γ)→∀i v,(rpC x)[i]?=some v→w'.cell? ⟨k8,i,none⟩=some v:=fun h' i v hv=>h'.ld List.mem_cons_self hv
 have hw2:IntKind.i64.wrap (s.c-2)=s.c-2:=wrap64 _ (by have:=hG.1; omega) (by have:=hG.2.1; omega)
 refine⟨_,c8 h6 0 _ rfl,dec_t fun hb=>bad w6 h6.chg.ext (hnot (by omega)),dec_f fun hb0=>⟨_,c8 h6 0 _ rfl,_,c2 h6 (by repeat constructor) 0 _ rfl,?_⟩⟩
 rw[hw2]
 refine⟨dec_t fun hb=>bad w6 h6.chg.ext (hnot (by omega)),dec_f fun hb1=>⟨_,c8 h6 1 _ rfl,dec_t fun hb=>bad w6 h6.chg.ext (hnot (by omega)),dec_f fun hb2=>⟨_,c8 h6 1 _ rfl,_,c2 h6 (by repeat constructor) 1 _ rfl,dec_t fun hb=>bad w6 h6.chg.ext (hnot (by omega)),dec_f fun hb3=>⟨_,c8 h6 2 _ rfl,bne_t fun hb=>bad w6 h6.chg.ext (hnot (by rw[strB_size]at hb; omega)),bne_f fun hb4=>?_⟩⟩⟩⟩
 rw[strB_size]at hb4
 have hvx:(0≤x.col∧x.col<s.c-2)∧(0≤x.off∧x.off<s.k)∧x.data.length=64:=by omega
 clear hnot
 refine Join.intro fun J hJ=>?_
 have go:∀(w9:World) (G':List (Int×Nat)),(G'.map (·.1)).Nodup→(∀o,o∈G'.map (·.1)↔(∃y∈l.take i,y.off=o)∨o=x.off)→T [] w w9 (blk k8 (rpC x) 47::blk k2 (rwC s ds.length bu.length) 31::ouP k11 G'::insP (l.take i) G')→J [] w9:=by
  intro w9 G' hn' hk' h9
  obtain⟨b,hfb⟩:=find_key ((hk' x.off).2 (.inr rfl))
  have hlk:∀{w':World},T [] w w' (blk k8 (rpC x) 47::blk k2 (rwC s ds.length bu.length) 31::ouP k11 G'::insP (l.take i) G')→(Instr.lookup 117 (.map (some k11)) (.int .i64 x.off) false).run Tp w'=.ok (.map (some b)) w':=fun h'=>by
   have:=T.look (t:=117) (kt:=3) (e:=43) h' (b:=k11) (l:=zE Prod.fst (fun y=>.map (some y.2)) G') (by repeat constructor) (by kernel_rfl) (by kernel_rfl) (hz1 _) x.off
   rw[zE_get,hfb]at this
   exact this
  obtain⟨G1,G2,hG',hG1⟩:=List.append_of_mem (List.mem_of_find?_eq_some hfb) |> fun⟨G1,G2,e⟩=>(⟨G1,G2,e,trivial⟩:∃G1 G2,G'=G1++(x.off,b)::G2∧True)
  have hnn:x.off∉G1.map (·.1)∧x.off∉G2.map (·.1):=by
   rw[hG',List.map_append,List.map_cons]at hn'
   obtain⟨n1,n2,n3⟩:=List.nodup_append.1 hn'
   exact⟨fun hm=>n3 _ hm _ List.mem_cons_self rfl,(List.nodup_cons.1 n2).1⟩
  have eI:insP (l.take i) G'=insP (l.take i) G1++inP b (esC (l.take i) x.off)::insP (l.take i) G2:=by rw[hG',insP_app]; rfl
  have eI2:insP (l.take i++[x]) G'=insP (l.take i) G1++inP b (esC (l.take i) x.off++[x])::insP (l.take i) G2:=by
   rw[hG',insP_app,insP_other hnn.1]
   show _++inP b (esC (l.take i++[x]) x.off)::insP (l.take i++[x]) G2=_
   rw[insP_other hnn.2,esC_snoc,if_pos rfl]
  have hmb:inP b (esC (l.take i) x.off)∈insP (l.take i) G':=by rw[eI]; exact List.mem_append_right _ List.mem_cons_self
  have hl2:=T.look2 (t:=43) (kt:=3) (e:=9) h9 (b:=b) (l:=zE RP.col (fun y=>.string (strB y.data)) (esC (l.take i) x.off)) (List.mem_cons_of_mem _ (List.mem_cons_of_mem _ (List.mem_cons_of_mem _ hmb))) (by kernel_rfl) (by kernel_rfl) (hz2 _) x.col
  rw[zE_get]at hl2
  refine hJ _ _ ⟨rfl,_,c8 h9 1 _ rfl,_,w9,hlk h9,_,c8 h9 0 _ rfl,?_⟩
  cases hf:(esC (l.take i) x.off).find? (fun y=>y.col==x.col) with
  |some y=>
   rw[hf]at hl2
   refine⟨_,_,w9,hl2,fun _=>bad w9 h9.chg.ext (hdup ?_),(fun hh=>by cases hh)⟩
   have m1:=List.mem_filter.1 (List.mem_of_find?_eq_some hf)
   have m2:=List.find?_some hf
   exact List.mem_map.2 ⟨y,m1.1,by rw[show y.off=x.off by simpa using m1.2,show y.col=x.col by simpa using m2]⟩
  |none=>
   rw[hf]at hl2
   refine⟨_,_,w9,hl2,(fun hh=>by cases hh),fun _=>⟨_,c8 h9 1 _ rfl,_,w9,hlk h9,_,c8 h9 0 _ rfl,_,c8 h9 2 _ rfl,?_⟩⟩
   obtain⟨z1,z2⟩:=zE_put (key:=RP.col) (val:=fun y=>.string (strB y.data)) hf
   have hu:=Turn.head (x:=mapP b (zE RP.col (fun y=>.string (strB y.data)) (esC (l.take i) x.off)) (esC (l.take i) x.off).length) (y:=mapP b (putK x.col (.string (strB x.data)) (zE RP.col (fun y=>.string (strB y.data)) (esC (l.take i) x.off)) (esC (l.take i) x.off).length) (clockK x.col (zE RP.col (fun y=>.string (strB y.data)) (esC (l.take i) x.off)) (esC (l.take i) x.off).length)) (Γ:=insP (l.take i) G1++(insP (l.take i) G2++[blk k8 (rpC x) 47,blk k2 (rwC s ds.length bu.length) 31,ouP k11 G']))
   have h9':T [] w w9 (inP b (esC (l.take i) x.off)::(insP (l.take i) G1++(insP (l.take i) G2++[blk k8 (rpC x) 47,blk k2 (rwC s ds.length bu.length) 31,ouP k11 G']))):=by
    refine h9.swap ?_
    rw[eI]
    refine(List.perm_append_comm (l₁:=[_,_,_]) (l₂:=insP (l.take i) G1++inP b (esC (l.take i) x.off)::insP (l.take i) G2)).trans ?_
    rw[List.append_assoc]
    exact List.perm_middle
   obtain⟨w10,hr10,h10⟩:=mapUpdate_t (P:=Tp) (t:=43) (kt:=3) (e:=9) (by kernel_rfl) (by kernel_rfl) h9' hu
   rw[z1,z2]at h10
   refine⟨w10,hr10,⟨i+1,G',by rw[wrap64 _ (by omega) (by omega)]; rfl,by omega,?_,?_,?_,?_⟩,?_⟩
   ·rw[htake]
    intro y hy
    rcases List.mem_append.1 hy with hy|hy
    ·exact hv y hy
    ·rw[List.mem_singleton.1 hy]; exact hvx
   ·rw[htake,List.map_append]
    refine List.nodup_append.2 ⟨hnd,by simp,fun y hy z hz e=>?_⟩
    obtain rfl:z=(x.off,x.col):=by simpa using hz
    subst e
    obtain⟨u,hu',he⟩:=List.mem_map.1 hy
    obtain⟨e1,e2⟩:=Prod.mk.inj he
    exact List.find?_eq_none.1 hf u (List.mem_filter.2 ⟨hu',by simpa using e1⟩) (by simpa using e2)
   ·rw[htake]
    refine⟨hn',fun o=>(hk' o).trans ?_⟩
    constructor
    ·rintro(⟨y,hy,e⟩|e)
     ·exact⟨y,List.mem_append_left _ hy,e⟩
     ·exact⟨x,List.mem_append_right _ (by simp),e.symm⟩
    ·rintro⟨y,hy,e⟩
     rcases List.mem_append.1 hy with hy|hy
     ·exact .inl ⟨y,hy,e⟩
     ·rw[List.mem_singleton.1 hy]at e; exact .inr e.symm
   ·rw[htake,eI2]
    have hpm:(inP b (esC (l.take i) x.off++[x])::(insP (l.take i) G1++(insP (l.take i) G2++[blk k8 (rpC x) 47,blk k2 (rwC s ds.length bu.length) 31,ouP k11 G']))).Perm (blk k8 (rpC x) 47::blk k2 (rwC s ds.length bu.length) 31::ouP k11 G'::(insP (l.take i) G1++inP b (esC (l.take i) x.off++[x])::insP (l.take i) G2)):=by
     refine List.Perm.trans ?_ (List.perm_append_comm (l₁:=insP (l.take i) G1++inP b (esC (l.take i) x.off++[x])::insP (l.take i) G2) (l₂:=[_,_,_]))
     rw[List.append_assoc]
     exact List.perm_middle.symm
    exact T.drop (h10.swap hpm)
   ·show((l.length:Int)-IntKind.i64.wrap ((i:Int)+1)).toNat<((l.length:Int)-(i:Int)).toNat
    rw[wrap64 _ (by omega) (by omega)]; omega
 have hl0:=T.look (t:=117) (kt:=3) (e:=43) h6 (b:=k11) (l:=zE Prod.fst (fun y=>.map (some y.2)) G) (by repeat constructor) (by kernel_rfl) (by kernel_rfl) (hz1 _) x.off
 rw[zE_get]at hl0
 cases hf:G.find? (fun y=>y.1==x.off) with
 |some y=>
  rw[hf]at hl0
  refine⟨_,c8 h6 1 _ rfl,_,w6,hl0,no rfl (go w6 G hgr.1 (fun o=>?_) h6)⟩
  rw[hgr.2 o]
  refine⟨fun hh=>.inl hh,fun hh=>?_⟩
  rcases hh with hh|rfl
  ·exact hh
  ·have:=List.find?_some hf
   exact(hgr.2 _).1 (List.mem_map.2 ⟨y,List.mem_of_find?_eq_some hf,by simpa using this⟩)
 |none=>
  rw[hf]at hl0
  have hno:x.off∉G.map (·.1):=fun hm=>by
   obtain⟨y,hy,e⟩:=List.mem_map.1 hm
   exact List.find?_eq_none.1 hf y hy (by simpa using e)
  refine⟨_,c8 h6 1 _ rfl,_,w6,hl0,yes rfl ⟨_,c8 h6 1 _ rfl,AllocM.t h6 fun k62 w7 h7=>?_⟩⟩
  obtain⟨z1,z2⟩:=zE_put (key:=Prod.fst) (val:=fun y:Int×Nat=>.map (some y.2)) (L:=G) (y:=(x.off,k62)) hf
  have hu:=Turn.tail (z:=ob k62 (.map #[] 0)) (Turn.tail (z:=blk k8 (rpC x) 47) (Turn.tail (z:=blk k2 (rwC s ds.length bu.length) 31) (Turn.head (x:=mapP k11 (zE Prod.fst (fun y=>.map (some y.2)) G) G.length) (y:=mapP k11 (putK x.off (.map (some k62)) (zE Prod.fst (fun y=>.map (some y.2)) G) G.length) (clockK x.off (zE Prod.fst (fun y=>.map (some y.2)) G) G.length)) (Γ:=insP (l.take i) G))))
  obtain⟨w8,hr8,h8⟩:=mapUpdate_t (P:=Tp) (t:=117) (kt:=3) (e:=43) (by kernel_rfl) (by kernel_rfl) h7 hu
  rw[z1,z2]at h8
  refine⟨w8,hr8,go w8 (G++[(x.off,k62)]) ?_ (fun o=>?_) ?_⟩
  ·rw[List.map_append]
   refine List.nodup_append.2 ⟨hgr.1,by simp,fun y hy z hz e=>?_⟩
   obtain rfl:z=x.off:=by simpa using hz
   exact hno (e▸hy)
  ·rw[List.map_append,List.mem_append,hgr.2 o]
   simp
  ·have e1:insP (l.take i) (G++[(x.off,k62)])=insP (l.take i) G++[ob k62 (.map #[] 0)]:=by
    rw[insP_app]
    show _++[inP k62 (esC (l.take i) x.off)]=_
    rw[esC_nil fun hh=>hno ((hgr.2 _).2 hh)]
    rfl
   rw[e1]
   refine h8.swap ?_
   exact(List.perm_append_comm (l₁:=[_]) (l₂:=_::_::_::insP (l.take i) G))
end Go.Proofs.YtkknkmplmilihaaGreat
end
section
namespace Go.Proofs.YtkknkmplmilihaaGreat
open Go.Sh Go.RowKit Go.Maps Go.Sort Go.Shelf
theorem keys17_spec {F:List Nat}{w0 w:World}{Γ:List A}{bm clock:Nat}{l:List Ent}(hT:T F w0 w Γ) (hm:mapP bm l clock∈Γ){n:Nat}(hln:l.length=n) (hn:l.length≤5000) (hb:∀x∈l,x.2.2<clock) (hd:(l.map (·.2.2)).Nodup) (hkn:(l.map (·.1)).Nodup)
  (hw:∀x∈l,(Lit.int .i64 x.1).wf=true) {Φ:Ending→World→Prop}
  (hΦ:∀(g:Option Nat) (cap:Nat) (w2:World),T F w0 w2 (rowP 3 1 g n cap (((l.map (·.1)).mergeSort leI).map (.int .i64))::Γ)→Φ (.returned (.slice (ptr g) n cap)) w2):
  Calls Tp 53 #[.map (some bm)] w fun e w1=>∃v,e=.returned v∧Calls Tp 52 #[v] w1 Φ:=by
 subst hln
 have hi:Tp.underlying 3=some (.int .i64):=by kernel_rfl
 have hmb:=hT.got hm
 have Ft:=keys_fit (H:=Unit) hi hn hb hd hkn hw
 have hown:w.ownsMap Tp 3 (plainR (H:=Unit)) bm 5000 (.map (((l.map ent).toArray.toList.map (Go.WideElems.rg Tp 3 plainR)).foldr DataW.insert [])):=⟨_,_,hmb,Ft,by simpa using hn,rfl⟩
 have hp:=intKeys_perm (H:=Unit) hi hw
 have hsz:Maps.size (DataW.map (((l.map ent).toArray.toList.map (Go.WideElems.rg Tp 3 (plainR (H:=Unit)))).foldr DataW.insert []))=l.length:=by
  show(List.foldr DataW.insert [] ((l.map ent).map _)).length=_
  rw[(WideShapes.sorted_perm _).length_eq]; simp
 have hbl:=hown.lt
 have hseq:SeqGives Fence.wide 2 Tp 119 #[.pointer (some ⟨w.heap.size,0,none⟩)] encZ (fun ss=>ss.Perm (intKeys _)) (Maps.size _) (w.alloc (.cells #[.map (some bm)] 117)):=
  AnyZI.keys_gives (ρ:=Tryz.keys53_ren) { Tryz.keys53 with } Fence.wide _ trivial rfl (by omega) w.heap.size bm 5000 _ _ (by simp) (by simp) (by
   obtain⟨es,clock,hb,Ft,hs,hD⟩:=hown
   exact⟨es,clock,(Below.heap_alloc _ _ bm hbl).trans hb,Ft,hs,hD⟩)
 have cK:CallsIn Fence.wide 5 Tp 53 #[.map (some bm)] w fun e w'=>e=.returned (.func (.func 119) #[] #[.pointer (some ⟨w.heap.size,0,none⟩)])∧w'=w.alloc (.cells #[.map (some bm)] 117):=AnyZI.keys_in Tryz.keys53 Fence.wide 5 trivial rfl (some bm) w
 have cS:=AnyZI.sorted_in Tryz.sorted52 Fence.wide 5 trivial trivial trivial trivial rfl (by omega) (sorts_at _) (enters_of Tryz.func118 (by kernel_rfl) rfl) 119 #[.pointer (some ⟨w.heap.size,0,none⟩)] trivial (enters_of Tryz.func119 (by kernel_rfl) rfl) _ _ (by rw[hsz]; simp only[maxLen]; omega) (by rw[hsz]; omega) _ hseq
 change CallsIn _ _ Tp 52 _ _ _ at cS
 refine(callsIn_wide.1 cK).mono ?_
 rintro e w1 ⟨rfl,rfl⟩
 refine⟨_,rfl,(callsIn_wide.1 cS).mono ?_⟩
 rintro e w2 ⟨v,ss,rfl,hS,hrow,-,hbel⟩
 have hss:ss.Perm (l.map (·.1)):=List.Perm.trans hS hp
 have hl:ss.length=l.length:=by rw[hss.length_eq]; simp
 have hrow':w2.ownsRow (w.alloc (.cells #[.map (some bm)] 117)).heap.size 3 1 v ss.length ((ss.mergeSort (fun x y=>decide (x≤y))).map encZ):=hrow
 have hms:ss.mergeSort (fun x y=>decide (x≤y))=(l.map (·.1)).mergeSort leI:=mergeSort_of_perm_i hss
 rw[hl,hms]at hrow'
 obtain⟨g,cap,rfl,hT2⟩:=T.ownRow (hT.alloc _) hbel rfl hrow'
 exact hΦ g cap w2 (T.drop (hT2.swap (.swap _ _ _)))
end Go.Proofs.YtkknkmplmilihaaGreat
end
section
namespace Go.Sh
open Go.RowKit
theorem T.back {F:List Nat}{w0 w:World}{Γ Δ:List A}(h:T F w0 w (Δ++Γ)):T F w0 w Γ:=by
 induction Δ with
 |nil=>exact h
 |cons a Δ ih=>exact ih (T.drop h)
theorem T.front {F:List Nat}{w0 w:World}{Γ Δ:List A}(h:T F w0 w (Γ++Δ)):T F w0 w Γ:=T.back (h.swap List.perm_append_comm)
theorem pushM {P:Program}{F:List Nat}{w0 w:World}{Γ Δ:List A}{t e:TypeId}{i:TypeInfo}{z v:Value}(ht:P.underlying t=some (.slice e)) (hi:P.info? e=some i) (hz:i.zero=some z) (hsize:i.size=1) (hzs:z.cells.size=1) (hby:decide (i.bytes≤1000000)=true)
  {g:Option Nat} {n cap k:Nat} {xs:List Value} (hT:T F w0 w Γ) (hm:blk k #[v] e∈Γ) (hk:Pick (rowP e 1 g n cap xs) Γ Δ) (hv:v.oneCell'=true) (hn:n≤1000000):
  ∃g' cap' w',(builtin .append #[t,t] t #[false,false] #[.slice (ptr g) n cap,.slice (some ⟨k,0,none⟩) 1 1]).run P w=.ok (.value (.slice (ptr g') (n+1) cap')) w'∧T F w0 w' (rowP e 1 g' (n+1) cap' (xs++[v])::Δ):=by
 have hby':i.bytes≤1000000:=of_decide_eq_true hby
 have hmul:(n+1)*i.bytes≤1000001*1000000:=Nat.mul_le_mul (by omega) hby'
 exact append_t (ty:=t) #[false,false] ht hi hz hsize hzs hT hk (a:=⟨k,0,none⟩) (m:=1) (c:=1) (news:=[v]) rfl (fun j u hu=>by
  rw[addr_add,Nat.zero_add]
  refine hT.ld hm ?_
  simpa using hu) (fun u hu=>by
  rw[List.mem_singleton.1 hu]; exact hv) (by simp only[maxLen]; omega) (by omega)
end Go.Sh
end
section
namespace Go.Proofs.YtkknkmplmilihaaGreat
open Go.Sh Go.RowKit
def flatP (l:List (Nat×Nat)):List Nat:=l.flatMap fun x=>[x.1,x.2]
theorem flatP_get {l:List (Nat×Nat)}{j:Nat}{x:Nat×Nat}(h:l[j]?=some x):(flatP l)[2*j]?=some x.1∧(flatP l)[2*j+1]?=some x.2:=by
 induction l generalizing j with
 |nil=>simp at h
 |cons y l ih=>
  have e:flatP (y::l)=y.1::y.2::flatP l:=rfl
  rw[e]
  cases j with
  |zero=>
   obtain rfl:y=x:=by simpa using h
   exact⟨rfl,rfl⟩
  |succ j=>
   have:=ih (j:=j) (by simpa using h)
   rw[show 2*(j+1)=2*j+1+1 by omega]
   exact this
theorem u64s_snoc (l:List Nat) (x:Nat):u64s l++[.int .u64 (x:Int)]=u64s (l++[x]):=by simp[u64s]
theorem ints_snoc (l:List Nat) (x:Nat):intsN l++[.int .i64 (x:Int)]=intsN (l++[x]):=by simp[intsN]
theorem packed_spec {prs:List (Nat×Nat)}(hv:Wid (prs.map (·.2))) (hf:∀x∈prs,x.1<256 ^ x.2){b c n:Nat}(hn:n=2*prs.length){w:World}(H:∀(j x:Nat),(flatP prs)[j]?=some x→w.cell? ⟨b,j,none⟩=some (.int .u64 (x:Int))):
  Ret Tp 216 #[.slice (some ⟨b,0,none⟩) n c] w (.string (strB (encP (prs.map (·.1)) (prs.map (·.2))))):=by
 subst hn
 refine ret_of (record_packed_calls ?_)
 unfold record_packed
 have h64:=hv.1
 rw[List.length_map]at h64
 have h0:T [] w w [rowP 70 1 none 0 0 (u64s []),rowP 3 1 none 0 0 (intsN [])]:=((T.nil w).nilRow 3 1).nilRow 70 1
 refine⟨fun vs w'=>∃(i:Nat) (g1 g2:Option Nat) (c1 c2:Nat),vs=[.slice (ptr g1) i c1,.slice (ptr g2) i c2,.int .i64 ((2*i:Nat):Int)]∧i≤prs.length∧T [] w w' [rowP 70 1 g1 i c1 (u64s ((prs.take i).map (·.1))),rowP 3 1 g2 i c2 (intsN ((prs.take i).map (·.2)))],fun vs _=>match vs with|[_,_,.int _ i]=>(2*prs.length-i).toNat|_=>0,⟨0,none,none,0,0,rfl,by omega,h0⟩,?_⟩
 rintro vs w1 ⟨i,g1,g2,c1,c2,rfl,hi,h1⟩
 have e1:IntKind.i64.wrap (((2*i:Nat):Int)+1)=((2*i+1:Nat):Int):=by rw[wrap64 _ (by omega) (by omega)]; omega
 refine⟨_,_,_,_,_,_,_,rfl,?_⟩
 rw[e1]
 refine⟨dec_t fun hlt=>?_,dec_f fun hge=>?_⟩
 ·have hlt:i<prs.length:=by omega
  have e2:IntKind.i64.wrap (((2*i:Nat):Int)+2)=((2*(i+1):Nat):Int):=by rw[wrap64 _ (by omega) (by omega)]; omega
  rw[e2]
  have hx:prs[i]?=some prs[i]:=List.getElem?_eq_getElem hlt
  have hmem:prs[i]∈prs:=List.getElem_mem hlt
  obtain⟨f1,f2⟩:=flatP_get hx
  have t1:(prs.take (i+1)).map (·.1)=(prs.take i).map (·.1)++[(prs[i]).1]:=by rw[List.take_add_one,hx,List.map_append]; rfl
  have t2:(prs.take (i+1)).map (·.2)=(prs.take i).map (·.2)++[(prs[i]).2]:=by rw[List.take_add_one,hx,List.map_append]; rfl
  have hw8:=hv.2 (prs[i]).2 (List.mem_map.2 ⟨_,hmem,rfl⟩)
  generalize prs[i]=x at f1 f2 t1 t2 hw8
  have e3:IntKind.i64.wrap (x.2:Int)=(x.2:Int):=wrap64 _ (by omega) (by omega)
  have cell:∀(j y:Nat),(flatP prs)[j]?=some y→∀w',Ext w w'→w'.cell? (Addr.add ⟨b,0,none⟩ ((j:Int).toNat*1))=some (.int .u64 (y:Int)):=fun j y hj w' hx=>by
   rw[addr_add,Nat.zero_add,Nat.mul_one,Int.toNat_natCast]
   exact cell_ext hx (H j y hj)
  have fin:∀(w':World) (Γ Δ:List A) (g1' g2':Option Nat) (c1' c2':Nat),T [] w w' Γ→Γ.Perm ([rowP 70 1 g1' (i+1) c1' (u64s ((prs.take i).map (·.1))++[.int .u64 (x.1:Int)]),rowP 3 1 g2' (i+1) c2' (intsN ((prs.take i).map (·.2))++[.int .i64 (x.2:Int)])]++Δ)→
    (∃(j:Nat) (g1 g2:Option Nat) (c1 c2:Nat),([.slice (ptr g1') (i+1) c1',.slice (ptr g2') (i+1) c2',.int .i64 ((2*(i+1):Nat):Int)]:List Value)=[.slice (ptr g1) j c1,.slice (ptr g2) j c2,.int .i64 ((2*j:Nat):Int)]∧j≤prs.length∧T [] w w' [rowP 70 1 g1 j c1 (u64s ((prs.take j).map (·.1))),rowP 3 1 g2 j c2 (intsN ((prs.take j).map (·.2)))])∧
    ((2*prs.length:Int)-((2*(i+1):Nat):Int)).toNat<((2*prs.length:Int)-((2*i:Nat):Int)).toNat:=by
   intro w' Γ Δ g1' g2' c1' c2' hT hp
   refine⟨⟨i+1,g1',g2',c1',c2',rfl,by omega,?_⟩,by omega⟩
   have:=T.front (hT.swap hp)
   rw[u64s_snoc,ints_snoc,←t1,←t2]at this
   exact this
  refine⟨fun w'=>Ext w w',h1.drew.chg.ext,⟨b,0,none⟩,rfl,by omega,by omega,_,fun w' h'=>cell _ _ f1 w' h',⟨b,0,none⟩,rfl,by omega,by omega,_,fun w' h'=>cell _ _ f2 w' h',?_,?_⟩
  ·refine Alloc.t h1.drew fun k20 w2 h2=>⟨h2.chg.ext,?_,?_⟩
   ·obtain⟨g1',c1',w3,hr3,h3⟩:=pushM (P:=Tp) (t:=155) (i:=Tryz.t70) (z:=.int .u64 0) (v:=.int .u64 (x.1:Int)) (k:=k20) (by kernel_rfl) (by kernel_rfl) (by kernel_rfl) (by kernel_rfl) (by kernel_rfl) (by kernel_rfl) h2 List.mem_cons_self (.tail .head) rfl (by omega)
    refine⟨_,_,_,w3,hr3,h3.chg.ext,?_⟩
    rw[e3]
    refine Alloc.t h3 fun k29 w4 h4=>⟨h4.chg.ext,?_⟩
    obtain⟨g2',c2',w5,hr5,h5⟩:=pushM (P:=Tp) (t:=29) (i:=Tryz.t3) (z:=.int .i64 0) (v:=.int .i64 (x.2:Int)) (k:=k29) (by kernel_rfl) (by kernel_rfl) (by kernel_rfl) (by kernel_rfl) (by kernel_rfl) (by kernel_rfl) h4 List.mem_cons_self (.tail (.tail (.tail .head))) rfl (by omega)
    exact⟨_,_,_,w5,hr5,h5.chg.ext,fin w5 _ _ _ _ _ _ h5 (List.perm_middle (l₁:=[_,_]))⟩
   ·rw[e3]
    refine Alloc.t h2 fun k29 w6 h6=>⟨h6.chg.ext,?_⟩
    obtain⟨g1',c1',w7,hr7,h7⟩:=pushM (P:=Tp) (t:=155) (i:=Tryz.t70) (z:=.int .u64 0) (v:=.int .u64 (x.1:Int)) (k:=k20) (by kernel_rfl) (by kernel_rfl) (by kernel_rfl) (by kernel_rfl) (by kernel_rfl) (by kernel_rfl) h6 (List.mem_cons_of_mem _ List.mem_cons_self) (.tail (.tail .head)) rfl (by omega)
    refine⟨_,_,_,w7,hr7,h7.chg.ext,?_⟩
    obtain⟨g2',c2',w8,hr8,h8⟩:=pushM (P:=Tp) (t:=29) (i:=Tryz.t3) (z:=.int .i64 0) (v:=.int .i64 (x.2:Int)) (k:=k29) (by kernel_rfl) (by kernel_rfl) (by kernel_rfl) (by kernel_rfl) (by kernel_rfl) (by kernel_rfl) h7 (List.mem_cons_of_mem _ List.mem_cons_self) (.tail (.tail (.tail .head))) rfl (by omega)
    exact⟨_,_,_,w8,hr8,h8.chg.ext,fin w8 _ _ _ _ _ _ h8 (.swap _ _ _)⟩
  ·rw[e3]
   refine Alloc.t h1.drew fun k29 w9 h9=>⟨h9.chg.ext,?_⟩
   refine Alloc.t h9 fun k20 w10 h10=>⟨h10.chg.ext,?_⟩
   obtain⟨g1',c1',w11,hr11,h11⟩:=pushM (P:=Tp) (t:=155) (i:=Tryz.t70) (z:=.int .u64 0) (v:=.int .u64 (x.1:Int)) (k:=k20) (by kernel_rfl) (by kernel_rfl) (by kernel_rfl) (by kernel_rfl) (by kernel_rfl) (by kernel_rfl) h10 List.mem_cons_self (.tail (.tail .head)) rfl (by omega)
   refine⟨_,_,_,w11,hr11,h11.chg.ext,?_⟩
   obtain⟨g2',c2',w12,hr12,h12⟩:=pushM (P:=Tp) (t:=29) (i:=Tryz.t3) (z:=.int .i64 0) (v:=.int .i64 (x.2:Int)) (k:=k29) (by kernel_rfl) (by kernel_rfl) (by kernel_rfl) (by kernel_rfl) (by kernel_rfl) (by kernel_rfl) h11 (List.mem_cons_of_mem _ (List.mem_cons_of_mem _ List.mem_cons_self)) (.tail (.tail (.tail .head))) rfl (by omega)
   exact⟨_,_,_,w12,hr12,h12.chg.ext,fin w12 _ _ _ _ _ _ h12 (.swap _ _ _)⟩
 ·have hie:i=prs.length:=by omega
  subst hie
  rw[List.take_length]at h1
  refine(encode_spec (ns:=prs.map (·.1)) (ws:=prs.map (·.2)) hv (by simp) (fun i n x hn hx=>?_) h1 (g1:=g1) (g2:=g2) (n1:=prs.length) (n2:=prs.length) (c1:=c1) (c2:=c2) (by simp) (by simp) (by repeat constructor) (by repeat constructor)).mono fun e w13 ⟨he,h13⟩=>⟨_,_,he,rfl,h13.chg.ext⟩
  rw[List.getElem?_map]at hn hx
  cases hp:prs[i]? with
  |none=>rw[hp]at hn; cases hn
  |some y=>
   rw[hp]at hn hx
   cases hn; cases hx
   exact hf y (List.mem_of_getElem? hp)
def magJ:List UInt8:=[82,86,84,74]
def plB (x:RP):UInt8:=UInt8.ofNat (4*x.col.toNat+x.off.toNat)
def prsR (seq:Nat) (row:Int) (n:Nat) (sum:B32):List (Nat×Nat):=[(seq,8),(row.toNat,2),(n,1),(sum.toNat,4)]
def frontR (seq:Nat) (row:Int) (n:Nat) (sum:B32):List UInt8:=magJ++encP [seq,row.toNat,n,sum.toNat] [8,2,1,4]
theorem wid4:Wid [8,2,1,4]:=⟨by decide,by decide⟩
theorem wid_prsR (seq:Nat) (row:Int) (n:Nat) (sum:B32):Wid ((prsR seq row n sum).map (·.2)):=wid4
theorem flat_prsR (seq:Nat) (row:Int) (n:Nat) (sum:B32):flatP (prsR seq row n sum)=[seq,8,row.toNat,2,n,1,sum.toNat,4]:=rfl
def headR (seq:Nat) (row:Int) (l:List RP) (sum:B32):List UInt8:=sealB (frontR seq row l.length sum++l.map plB) 64
theorem frontR_len (seq:Nat) (row:Int) (n:Nat) (sum:B32):(frontR seq row n sum).length=19:=by
 unfold frontR
 rw[List.length_append,encP_len [seq,row.toNat,n,sum.toNat] [8,2,1,4] rfl]; rfl
theorem headR_len {seq:Nat}{row:Int}{l:List RP}{sum:B32}(h:l.length≤40):(headR seq row l sum).length=64:=sealB_len (by rw[List.length_append,frontR_len,List.length_map]; omega)
theorem plB_val {x:RP}(h:0≤x.col∧x.col<10∧0≤x.off∧x.off<4):IntKind.u8.wrap (bits2 .or .i64 (IntKind.i64.wrap (x.col*2 ^ 2)) x.off)=((plB x).toNat:Int):=by
 obtain⟨c,hc⟩:∃c:Fin 10,x.col=(c.1:Int):=⟨⟨x.col.toNat,by omega⟩,by show x.col=((x.col.toNat:Nat):Int); omega⟩
 obtain⟨o,ho⟩:∃o:Fin 4,x.off=(o.1:Int):=⟨⟨x.off.toNat,by omega⟩,by show x.off=((x.off.toNat:Nat):Int); omega⟩
 unfold plB
 rw[hc,ho,Int.toNat_natCast,Int.toNat_natCast]
 have key:∀(c:Fin 10) (o:Fin 4),IntKind.u8.wrap (bits2 .or .i64 (IntKind.i64.wrap (((c.1:Nat):Int)*2 ^ 2)) ((o.1:Nat):Int))=((UInt8.ofNat (4*c.1+o.1)).toNat:Int):=by decide +kernel
 exact key c o
theorem head_spec {seq:Nat}{row:Int}{p:Option Addr}{c:Nat}{l:List RP}{sum:B32}{w:World}(hs:seq<2 ^ 64) (hP:PlacedR row l) (H:partsAt w p l):Ret Tp 176 #[.agg (rcC seq row p l.length c),u32v sum] w (.string (strB (headR seq row l sum))):=by
 refine ret_of (record_Record_head_calls ?_)
 unfold record_Record_head
 have hr0:=hP.1
 have hr1:=hP.2.1
 have hl40:=hP.2.2.2.1
 refine Alloc.t (T.nil w) fun k2 w1 h1=>Alloc.t h1 fun k5 w2 h2=>?_
 have h2:T [] w w2 (bldL k5 false none 0 []++[blk k2 (rcC seq row p l.length c) 75]):=(T.nilRow h2 5 1).swap (.swap _ _ _)
 have eJ:(ByteArray.mk #[82,86,84,74])=strB magJ:=rfl
 rw[eJ]
 refine(writeString_spec h2 magJ (by simp[magJ])).mono fun e w3 ⟨he3,g3,c3,h3⟩=>⟨_,_,he3,?_⟩
 try dsimp only
 rw[List.nil_append]at h3
 have mm:∀{w':World} {g:Option Nat} {cc:Nat} {bs:List UInt8},T [] w w' (bldL k5 true g cc bs++[blk k2 (rcC seq row p l.length c) 75])→blk k2 (rcC seq row p l.length c) 75∈(bldL k5 true g cc bs++[blk k2 (rcC seq row p l.length c) 75]):=fun _=>by simp
 refine⟨_,h3.ld (b:=k2) (c:=rcC seq row p l.length c) (mm h3) rfl,_,h3.ld (b:=k2) (c:=rcC seq row p l.length c) (i:=1) (mm h3) rfl,_,_,_,h3.ld (b:=k2) (c:=rcC seq row p l.length c) (i:=2) (mm h3) rfl,?_⟩
 have e1:IntKind.u64.wrap row=((row.toNat:Nat):Int):=by rw[wrapU64]; omega
 have e2:IntKind.u64.wrap (l.length:Int)=(l.length:Int):=by rw[wrapU64]; omega
 have e3:IntKind.u64.wrap ((sum.toNat:Nat):Int)=(sum.toNat:Int):=by have:=b32_lt sum; rw[wrapU64]; omega
 rw[e1,e2,e3]
 refine Alloc.t h3 fun k22 w4 h4=>?_
 have hcells:∀(j x:Nat),(flatP (prsR seq row l.length sum))[j]?=some x→w4.cell? ⟨k22,j,none⟩=some (.int .u64 (x:Int)):=fun j x hj=>by
  refine h4.ld (b:=k22) List.mem_cons_self ?_
  rw[flat_prsR]at hj
  have hj8:j<8:=(List.getElem?_eq_some_iff.1 hj).1
  match j,hj8 with
  |0,_=>cases hj; rfl
  |1,_=>cases hj; rfl
  |2,_=>cases hj; rfl
  |3,_=>cases hj; rfl
  |4,_=>cases hj; rfl
  |5,_=>cases hj; rfl
  |6,_=>cases hj; rfl
  |7,_=>cases hj; rfl
 have hwid:Wid ((prsR seq row l.length sum).map (·.2)):=wid_prsR seq row l.length sum
 have hfit:∀x∈prsR seq row l.length sum,x.1<256 ^ x.2:=fun x hx=>by
  have s4:=sum.isLt
  have q8:(256:Nat) ^ 8=2 ^ 64:=by decide
  have q4:(256:Nat) ^ 4=2 ^ 32:=by decide
  simp only[prsR,List.mem_cons,List.not_mem_nil,or_false]at hx
  rcases hx with rfl|rfl|rfl|rfl
  ·show seq<256 ^ 8; omega
  ·show row.toNat<256 ^ 2; omega
  ·show l.length<256 ^ 1; omega
  ·show sum.toNat<256 ^ 4; omega
 obtain⟨sP,hsP,hpl,hfr⟩:∃sP,encP ((prsR seq row l.length sum).map (·.1)) ((prsR seq row l.length sum).map (·.2))=sP∧sP.length=15∧magJ++sP=frontR seq row l.length sum:=⟨_,rfl,encP_len [seq,row.toNat,l.length,sum.toNat] [8,2,1,4] rfl,by unfold frontR; rfl⟩
 have hpk:=packed_spec (prs:=prsR seq row l.length sum) (n:=8) (c:=8) hwid hfit rfl hcells
 rw[hsP]at hpk
 refine hpk.mono fun e w5 ⟨he5,hx5⟩=>⟨_,he5,?_⟩
 have h5:T [] w w5 (bldL k5 true g3 c3 magJ++[blk k2 (rcC seq row p l.length c) 75]):=(h4.quiet hx5).drop
 refine(writeString_spec h5 sP (by rw[hpl]; simp[magJ])).mono fun e w6 ⟨he6,g6,c6,h6⟩=>⟨_,_,he6,?_⟩
 try dsimp only
 rw[hfr]at h6
 have hfl:=frontR_len seq row l.length sum
 refine⟨_,_,_,h6.ld (b:=k2) (c:=rcC seq row p l.length c) (i:=2) (mm h6) rfl,?_⟩
 refine⟨fun vs w'=>∃(i:Nat) (g:Option Nat) (cc:Nat),vs=[.int .i64 (i:Int)]∧i≤l.length∧T [] w w' (bldL k5 true g cc (frontR seq row l.length sum++(l.take i).map plB)++[blk k2 (rcC seq row p l.length c) 75]),fun vs _=>match vs with|[.int _ i]=>(l.length-i).toNat|_=>0,⟨0,g6,c6,rfl,by omega,by simpa using h6⟩,?_⟩
 rintro vs w7 ⟨i,g,cc,rfl,hi,h7⟩
 refine⟨_,rfl,dec_t fun hlt=>?_,dec_f fun hge=>?_⟩
 ·have hlt:i<l.length:=by omega
  obtain⟨a,rfl,q0,q1,q2⟩:=(H.ext h7.chg.ext).get hlt
  have hmem:l[i]∈l:=List.getElem_mem hlt
  have hnext:(l.take (i+1)).map plB=(l.take i).map plB++[plB l[i]]:=by rw[List.take_add_one,List.getElem?_eq_getElem hlt,List.map_append]; rfl
  generalize l[i]=x at q0 q1 q2 hmem hnext
  refine⟨a,rfl,by omega,by omega,x.col,x.off,strB x.data,⟨by rw[Int.toNat_natCast]; exact q0,by rw[Int.toNat_natCast]; exact q1,by rw[Int.toNat_natCast]; exact q2⟩,?_⟩
  refine Alloc.t h7 fun k7 w8 h8=>St3.t h8 fun w11 h11=>⟨_,h11.ld (b:=k7) (c:=rpC x) List.mem_cons_self rfl,_,h11.ld (b:=k7) (c:=rpC x) (i:=1) List.mem_cons_self rfl,?_⟩
  rw[plB_val (hP.2.2.2.2.1 x hmem)]
  refine(writeByte_spec h11.drop (plB x) (by rw[List.length_append,hfl,List.length_map,List.length_take]; omega)).mono fun e w12 ⟨he12,g12,c12,h12⟩=>⟨_,he12,⟨i+1,g12,c12,?_,by omega,?_⟩,?_⟩
  ·rw[wrap64 _ (by omega) (by omega)]; rfl
  ·rw[hnext,←List.append_assoc]; exact h12
  ·show((l.length:Int)-IntKind.i64.wrap ((i:Int)+1)).toNat<((l.length:Int)-(i:Int)).toNat
   rw[wrap64 _ (by omega) (by omega)]; omega
 ·have hie:i=l.length:=by omega
  subst hie
  rw[List.take_length]at h7
  refine(bstring_spec h7).mono fun e w13 ⟨he13,hx13⟩=>⟨_,he13,?_⟩
  refine(seal_spec (strB (frontR seq row l.length sum++l.map plB)) 64 (by rw[strB_size,List.length_append,hfl,List.length_map]; omega) (by omega) w13).mono fun e w14 ⟨he14,hx14⟩=>⟨_,_,he14,rfl,hx13.trans hx14⟩
end Go.Proofs.YtkknkmplmilihaaGreat
end
section
namespace Go.Sh
open Go.RowKit
theorem pushN_t {P:Program}{F:List Nat}{w0 w:World}{Γ Δ:List A}{t e:TypeId}{i:TypeInfo}{z:Value}{c:Array Value}{size:Nat}(ht:P.underlying t=some (.slice e)) (hi:P.info? e=some i) (hz:i.zero=some z) (hsize:i.size=size) (hzs:z.cells.size=size) (hby:decide (i.bytes≤1000000)=true)
  {g:Option Nat} {n cap:Nat} {xs:List Value} (hT:T F w0 w Γ) (hk:Pick (rowP e size g n cap xs) Γ Δ) (hc:c.size=size) (hv:∀u∈c.toList,u.oneCell'=true) (hn:n≤1000000) {K:Option Addr→Nat→Nat→World→Prop} (hK:∀g' cap' w',T F w0 w' (rowP e size g' (n+1) cap' (xs++c.toList)::Δ)→K (ptr g') (n+1) cap' w'):
  Alloc c e w fun k w1=>∃(p:Option Addr) (l c:Nat),∃w2,(builtin .append #[t,t] t #[false,false] #[.slice (ptr g) n cap,.slice (some ⟨k,0,none⟩) 1 1]).run P w1=.ok (.value (.slice p l c)) w2∧K p l c w2:=by
 refine Alloc.t hT fun k w1 hT1=>?_
 have hby':i.bytes≤1000000:=of_decide_eq_true hby
 have hmul:(n+1)*i.bytes≤1000001*1000000:=Nat.mul_le_mul (by omega) hby'
 obtain⟨g',cap',w',hr,hT'⟩:=append_t (ty:=t) #[false,false] ht hi hz hsize hzs hT1 (.tail hk) (a:=⟨k,0,none⟩) (m:=1) (c:=1) (news:=c.toList) (by rw[Array.length_toList,hc,Nat.one_mul]) (fun j u hu=>by
   rw[addr_add,Nat.zero_add]
   exact hT1.ld List.mem_cons_self (by simpa using hu)) hv (by simp only[maxLen]; omega) (by omega)
 refine⟨_,_,_,w',hr,hK _ _ _ ?_⟩
 exact T.drop (T.swap hT' (.swap _ _ _))
end Go.Sh
end
section
namespace Go.Proofs.YtkknkmplmilihaaGreat
open Go.Sh Go.RowKit
def strV (L:List (List UInt8)):List Value:=L.map fun x=>.string (strB x)
def datas (l:List RP):List (List UInt8):=l.map (·.data)
theorem datas_len (l:List RP):(datas l).length=l.length:=List.length_map ..
theorem datas_flat {l:List RP}(h:LoadedR l):(datas l).flatten.length=64*l.length:=by
 induction l with
 |nil=>rfl
 |cons x l ih=>
  have e:(datas (x::l)).flatten=x.data++(datas l).flatten:=rfl
  rw[e,List.length_append,ih fun y hy=>h y (List.mem_cons_of_mem _ hy),h x List.mem_cons_self,List.length_cons]; omega
def sumR (l:List RP):B32:=crcSum (datas l).flatten
variable {F:List Nat}{w0 w:World}{Γ:List A}
theorem rencode_bad_p (hT:T F w0 w Γ){seq:Nat}{row:Int}{p:Option Addr}{c:Nat}{l:List RP}(hp:∀(w':World) (Δ:List A),T F w0 w' (Δ++Γ)→partsAt w' p l) (hl:l.length≤1000000) (hn:¬(PlacedR row l∧LoadedR l)):
  Calls Tp 101 #[.agg (rcC seq row p l.length c)] w fun e w'=>e=.returned (.tuple #[.string (ByteArray.mk #[]),.slice none 0 0,.int .i64 1])∧T F w0 w' Γ:=by
 refine rq (record_Encode_calls ?_)
 unfold record_Encode
 refine Alloc.t hT fun k1 w1 h1=>⟨_,_,_,_,_,⟨h1.ld (b:=k1) (c:=rcC seq row p l.length c) List.mem_cons_self rfl,h1.ld (b:=k1) (c:=rcC seq row p l.length c) (i:=1) List.mem_cons_self rfl,h1.ld (b:=k1) (c:=rcC seq row p l.length c) (i:=2) List.mem_cons_self rfl⟩,?_⟩
 refine(rmay12_spec (seq:=seq) (row:=row) (c:=c) (hp w1 [_] h1) hl).mono fun e w2 ⟨he,hx2⟩=>⟨_,he,yes ?_ ⟨rfl,(h1.quiet hx2).drop⟩⟩
 by_cases hp:PlacedR row l
 ·rw[decide_eq_true hp,decide_eq_false fun hq=>hn ⟨hp,hq⟩]; rfl
 ·rw[decide_eq_false hp]; rfl
theorem rencode_good_p (hT:T F w0 w Γ){seq:Nat}{row:Int}{p:Option Addr}{c:Nat}{l:List RP}(hs:seq<2 ^ 64) (hp:∀(w':World) (Δ:List A),T F w0 w' (Δ++Γ)→partsAt w' p l) (hP:PlacedR row l) (hL:LoadedR l):
  Calls Tp 101 #[.agg (rcC seq row p l.length c)] w fun e w'=>∃g' cap,e=.returned (.tuple #[.string (strB (headR seq row l (sumR l))),.slice (ptr g') l.length cap,.int .i64 0])∧T F w0 w' (rowP 9 1 g' l.length cap (strV (datas l))::Γ):=by
 refine(record_Encode_calls (R:=fun v w'=>∃g' cap,v=.tuple #[.string (strB (headR seq row l (sumR l))),.slice (ptr g') l.length cap,.int .i64 0]∧T F w0 w' (rowP 9 1 g' l.length cap (strV (datas l))::Γ)) ?_).mono fun e w' ⟨v,he,g',cap,hv,h⟩=>⟨g',cap,by rw[he,hv],h⟩
 unfold record_Encode
 have hl40:=hP.2.2.2.1
 have hfl:=datas_flat hL
 have rd:∀{w':World} {Δ:List A} {k1:Nat},T F w0 w' Δ→blk k1 (rcC seq row p l.length c) 75∈Δ→w'.cell? ⟨k1,0,none⟩=some (.int .u64 (seq:Int))∧w'.cell? ⟨k1,1,none⟩=some (.int .i64 row)∧w'.cell? ⟨k1,2,none⟩=some (.slice p l.length c):=fun h hm=>⟨h.ld (c:=rcC seq row p l.length c) hm rfl,h.ld (c:=rcC seq row p l.length c) (i:=1) hm rfl,h.ld (c:=rcC seq row p l.length c) (i:=2) hm rfl⟩
 refine Alloc.t hT fun k1 w1 h1=>⟨_,_,_,_,_,rd h1 List.mem_cons_self,?_⟩
 refine(rmay12_spec (seq:=seq) (row:=row) (c:=c) (hp w1 [_] h1) (by omega)).mono fun e w2 ⟨he,hx2⟩=>⟨_,he,no (by rw[decide_eq_true hP,decide_eq_true hL]; rfl) ?_⟩
 have h2:=h1.quiet hx2
 refine⟨_,_,_,(rd h2 List.mem_cons_self).2.2,?_⟩
 refine⟨fun vs w'=>∃(i:Nat) (g':Option Nat) (cap:Nat),vs=[.slice (ptr g') i cap,.int .i64 (i:Int)]∧i≤l.length∧T F w0 w' (rowP 9 1 g' i cap (strV (datas (l.take i)))::blk k1 (rcC seq row p l.length c) 75::Γ),fun vs _=>match vs with|[_,.int _ i]=>(l.length-i).toNat|_=>0,⟨0,none,0,rfl,by omega,T.nilRow h2 _ _⟩,?_⟩
 rintro vs w3 ⟨i,g3,c3,rfl,hi,h3⟩
 refine⟨_,_,_,_,rfl,dec_t fun hlt=>?_,dec_f fun hge=>?_⟩
 ·have hlt:i<l.length:=by omega
  obtain⟨a,ha,q0,q1,q2⟩:=(hp w3 [_,_] h3).get hlt
  have hnext:strV (datas (l.take (i+1)))=strV (datas (l.take i))++[.string (strB (l[i]).data)]:=by
   rw[List.take_add_one,List.getElem?_eq_getElem hlt]
   show((l.take i++[l[i]]).map (·.data)).map (fun x=>Value.string (strB x))=_
   rw[List.map_append,List.map_append]; rfl
  generalize l[i]=x at q0 q1 q2 hnext
  refine⟨a,ha,by omega,by omega,x.col,x.off,strB x.data,⟨by rw[Int.toNat_natCast]; exact q0,by rw[Int.toNat_natCast]; exact q1,by rw[Int.toNat_natCast]; exact q2⟩,?_⟩
  refine Alloc.t h3 fun k7 w4 h4=>St3.t h4 fun w7 h7=>⟨_,h7.ld (b:=k7) (c:=rpC x) (i:=2) List.mem_cons_self rfl,?_⟩
  refine push1_t (P:=Tp) (t:=54) (i:=Tryz.t9) (z:=.string (ByteArray.mk #[])) (v:=.string (strB x.data)) (by kernel_rfl) (by kernel_rfl) (by kernel_rfl) (by kernel_rfl) (by kernel_rfl) (by kernel_rfl) h7.drop .head rfl (by omega) fun g9 c9 w9 h9=>⟨⟨i+1,g9,c9,?_,by omega,?_⟩,?_⟩
  ·rw[wrap64 _ (by omega) (by omega)]; rfl
  ·rw[hnext]; exact h9
  ·show((l.length:Int)-IntKind.i64.wrap ((i:Int)+1)).toNat<((l.length:Int)-(i:Int)).toNat
   rw[wrap64 _ (by omega) (by omega)]; omega
 ·have hie:i=l.length:=by omega
  subst hie
  rw[List.take_length]at h3
  refine⟨fun w'=>T F w0 w' (rowP 9 1 g3 l.length c3 (strV (datas l))::blk k1 (rcC seq row p l.length c) 75::Γ),h3.drew,_,_,_,_,_,fun w' h'=>rd h' (List.mem_cons_of_mem _ List.mem_cons_self),?_⟩
  refine(join_spec (L:=datas l) h3.drew List.mem_cons_self (by rw[datas_len]; omega) (by omega)).mono fun e w10 ⟨he10,hx10⟩=>⟨_,he10,h3.drew.quiet hx10,?_⟩
  have h10:=h3.drew.quiet hx10
  refine(crsum_spec (strB (datas l).flatten) (by rw[strB_size]; omega) w10).mono fun e w11 ⟨he11,hx11⟩=>⟨_,he11,h10.quiet hx11,?_⟩
  have h11:=h10.quiet hx11
  refine(head_spec (seq:=seq) (row:=row) (c:=c) (sum:=sumR l) hs hP (hp w11 [_,_] h11)).mono fun e w12 ⟨he12,hx12⟩=>⟨_,he12,h11.quiet hx12,g3,c3,rfl,T.dropAt (h11.quiet hx12) (.tail .head)⟩
end Go.Proofs.YtkknkmplmilihaaGreat
end
section
namespace Go.Proofs.YtkknkmplmilihaaGreat
open Go.Sh Go.RowKit Go.Maps
theorem partsG_app {s:RwS}{ds:List Od}{bu:List Int}{at_:Int}{l:List RP}:∀(A B:List Int),partsG s ds bu at_ l (A++B)=match partsG s ds bu at_ l A with
  |.error n=>.error n
  |.ok y=>match partsG s ds bu at_ l B with
   |.error n=>.error n
   |.ok z=>.ok (y++z)
 |[],B=>by
  simp only[List.nil_append,partsG]
  cases partsG s ds bu at_ l B with
  |error n=>rfl
  |ok x=>simp
 |a::A,B=>by
  have ih:=partsG_app (s:=s) (ds:=ds) (bu:=bu) (at_:=at_) (l:=l) A B
  simp only[List.cons_append,partsG,ih]
  cases filR s ds bu at_ a with
  |error n=>rfl
  |ok x=>
   cases partsG s ds bu at_ l A with
   |error n=>rfl
   |ok y=>
    cases partsG s ds bu at_ l B with
    |error n=>rfl
    |ok z=>simp
theorem perm_nodup {A B:List Int}(hA:A.Nodup) (hB:B.Nodup) (h:∀x,x∈A↔x∈B):A.Perm B:=by
 rw[List.perm_iff_count]
 intro x
 have h1:=List.nodup_iff_count.1 hA x
 have h2:=List.nodup_iff_count.1 hB x
 by_cases hx:x∈A
 ·have:=List.count_pos_iff.2 hx
  have:=List.count_pos_iff.2 ((h x).1 hx)
  omega
 ·rw[List.count_eq_zero_of_not_mem hx,List.count_eq_zero_of_not_mem fun hh=>hx ((h x).2 hh)]
theorem keys_perm {s:RwS}{l:List RP}{G:List (Int×Nat)}(hg:GrpOk l G) (hl:∀x∈l,0≤x.off∧x.off<s.k):(G.map (·.1)).Perm (offsC s l):=perm_nodup hg.1 (offsC_nodup s l) fun o=>by
 rw[hg.2 o,offsC_mem]
 exact⟨fun⟨x,hx,e⟩=>⟨e▸hl x hx,x,hx,e⟩,fun⟨_,h⟩=>h⟩
theorem keys_offs {s:RwS}{l:List RP}{G:List (Int×Nat)}(hg:GrpOk l G) (hl:∀x∈l,0≤x.off∧x.off<s.k):(G.map (·.1)).mergeSort (fun x y=>decide (x≤y))=offsC s l:=by
 have hs:(offsC s l).Pairwise (fun x y=>decide (x≤y)=true):=by
  unfold offsC
  refine List.Pairwise.filter _ ?_
  rw[List.pairwise_map]
  exact(List.pairwise_lt_range).imp fun {a b} hab=>decide_eq_true (by omega)
 have hp:=(List.mergeSort_perm (G.map (·.1)) (fun x y=>decide (x≤y))).trans (keys_perm hg hl)
 refine List.Perm.eq_of_pairwise (le:=fun x y=>decide (x≤y)=true) (fun a b _ _ h1 h2=>?_) (List.pairwise_mergeSort (fun a b c h1 h2=>?_) (fun a b=>?_) _) hs hp
 ·have:=of_decide_eq_true h1
  have:=of_decide_eq_true h2
  omega
 ·have:=of_decide_eq_true h1
  have:=of_decide_eq_true h2
  exact decide_eq_true (by omega)
 ·by_cases h:a≤b
  ·rw[decide_eq_true h]; rfl
  ·rw[decide_eq_false h,decide_eq_true (by omega:b≤a)]; rfl
def Ask (ents:List Ent) (P:Int→Prop):Prop:=∀k,(P k∧getK k ents=some (.bool true))∨(¬P k∧getK k ents=none)
theorem Ask.nil:Ask [] fun _=>False:=fun k=>.inr ⟨id,rfl⟩
theorem Ask.put {ents:List Ent}{P Q:Int→Prop}(h:Ask ents P){x:Int}{c:Nat}(hQ:∀k,Q k↔(k=x∨P k)):Ask (putK x (.bool true) ents c) Q:=fun k=>by
 rw[getQ_put,hQ k]
 by_cases e:k=x
 ·rw[if_pos e]; exact .inl ⟨.inl e,rfl⟩
 ·rw[if_neg e]
  rcases h k with⟨h1,h2⟩|⟨h1,h2⟩
  ·exact .inl ⟨.inr h1,h2⟩
  ·exact .inr ⟨fun hh=>hh.elim e h1,h2⟩
theorem Ask.congr {ents:List Ent}{P Q:Int→Prop}(h:Ask ents P) (hQ:∀k,Q k↔P k):Ask ents Q:=fun k=>by rw[hQ k]; exact h k
theorem Ask.look {ents:List Ent}{P:Int→Prop}(h:Ask ents P){F:List Nat}{w0 w:World}{Γ:List A}{b clk:Nat}(hT:T F w0 w Γ) (hm:mapP b ents clk∈Γ) (k:Int):∃q:Bool,(q=true↔P k)∧(Instr.lookup 44 (.map (some b)) (.int .i64 k) false).run Tp w=.ok (.bool q) w:=by
 have:=T.look (P:=Tp) (t:=44) (kt:=3) (e:=4) (z:=.bool false) hT hm (by kernel_rfl) (by kernel_rfl) (by kernel_rfl) k
 rw[this]
 rcases h k with⟨h1,h2⟩|⟨h1,h2⟩
 ·rw[h2]; exact⟨true,⟨fun _=>h1,fun _=>rfl⟩,rfl⟩
 ·rw[h2]; exact⟨false,⟨(fun hh=>by cases hh),fun hh=>absurd hh h1⟩,rfl⟩
theorem ask_put {F:List Nat}{w0 w:World}{Γ:List A}{b clk:Nat}{ents:List Ent}(hT:T F w0 w (mapP b ents clk::Γ)) (x:Int):∃w',(Instr.mapUpdate 44 (.map (some b)) (.int .i64 x) (.bool true)).run Tp w=.ok () w'∧T F w0 w' (mapP b (putK x (.bool true) ents clk) (clockK x ents clk)::Γ):=
 mapUpdate_t (P:=Tp) (t:=44) (kt:=3) (e:=4) (by kernel_rfl) (by kernel_rfl) hT .head
theorem litTwo {F:List Nat}{w0 w:World}{Γ:List A}{b:Nat}{x y:Int}{P:Int→Prop}{K:World→Prop}(hT:T F w0 w (ob b (.map #[] 0)::Γ)) (hP:∀k,P k↔(k=x∨k=y)) (hK:∀ents clk w',Ask ents P→T F w0 w' (mapP b ents clk::Γ)→K w'):
  ∃w9,(Instr.mapUpdate 44 (.map (some b)) (.int .i64 x) (.bool true)).run Tp w=.ok () w9∧True∧∃w10,(Instr.mapUpdate 44 (.map (some b)) (.int .i64 y) (.bool true)).run Tp w9=.ok () w10∧True∧K w10:=by
 have hT:T F w0 w (mapP b [] 0::Γ):=hT
 obtain⟨w9,r9,h9⟩:=ask_put hT x
 obtain⟨w10,r10,h10⟩:=ask_put h9 y
 refine⟨w9,r9,trivial,w10,r10,trivial,hK _ _ w10 ?_ h10⟩
 have a1:=Ask.put (c:=0) Ask.nil (x:=x) (Q:=fun k=>k=x∨False) fun k=>Iff.rfl
 refine Ask.put a1 fun k=>?_
 rw[hP k]
 constructor
 ·rintro(h|h)
  ·exact .inr (.inl h)
  ·exact .inl h
 ·rintro(h|h|h)
  ·exact .inr h
  ·exact .inl h
  ·exact h.elim
theorem set_two {L:List Txt}{n:Nat}(h:L.length=n+2) (p q:Txt):(L.set n p).set (n+1) q=L.take n++[p,q]:=by
 refine List.ext_getElem (by simp; omega) fun i h1 h2=>?_
 rw[List.getElem_set,List.getElem_set]
 by_cases e1:n+1=i
 ·subst e1
  rw[if_pos rfl,List.getElem_append_right (by rw[List.length_take]; omega)]
  simp[List.length_take,h]
 ·rw[if_neg e1]
  by_cases e2:n=i
  ·subst e2
   rw[if_pos rfl,List.getElem_append_right (by rw[List.length_take]; omega)]
   simp[List.length_take,h]
  ·rw[if_neg e2]
   have hi:i<n:=by simp at h1; omega
   rw[List.getElem_append_left (by rw[List.length_take]; omega),List.getElem_take]
theorem rpL_more (Z:List RP) (y:RP):rpL (Z++[y])=rpL Z++(rpC y).toList:=by unfold rpL; rw[List.flatMap_append]; simp
def RpP (r:Except Int (List RP)) (w:World) (v:Value) (w':World):Prop:=match r with
 |.error n=>v=.tuple #[.slice none 0 0,.int .i64 n]∧Ext w w'
 |.ok x=>∃g c,v=.tuple #[.slice (ptr g) x.length c,.int .i64 0]∧T [] w w' [rowP 64 3 g x.length c (rpL x)]
theorem filR_short {s:RwS}{ds:List Od}{bu:List Int}{row off:Int}{x:List Txt×List Int}(hf:filR s ds bu row off=.ok x):∃m,m≤4096∧(∀j,j<x.1.length→(x.1.getD j []).length=m)∧x.2.length≤2:=by
 unfold filR at hf
 cases hR:readR s ds bu row off with
 |error n=>rw[hR]at hf; cases hf
 |ok y=>
  rw[hR]at hf
  dsimp only at hf
  split at hf
  ·rename_i hO
   split at hf
   ·rename_i h2
    have hf:=Except.ok.inj hf
    subst hf
    obtain⟨m,hm,hall⟩:=hO.lens
    exact⟨m,hm,(fill_col hO h2 (m:=m) hall).all,h2⟩
   ·cases hf
  ·cases hf
open Classical in
theorem parts17_spec {s:RwS}{ds:List Od}{bu:List Int}{w:World}(h:RwW s ds bu w) (hdl:ds.length≤1000000) (hF:FewL ds 1000000){p:Option Addr}{c:Nat}{l:List RP}(hp:partsAt w p l) (hll:l.length≤1000000) (at_:Int):
  Calls Tp 21 #[.agg (rwC s ds.length bu.length),.int .i64 at_,.slice p l.length c] w fun e w'=>∃v,e=.returned v∧RpP (partsF s ds bu at_ l) w v w':=by
 refine stripe_Parts_calls (R:=fun v w'=>RpP (partsF s ds bu at_ l) w v w') ?_
 unfold stripe_Parts
 have hR:∀v w',RpP (partsF s ds bu at_ l) w v w'→(fun v w'=>RpP (partsF s ds bu at_ l) w v w') v w':=fun _ _ h=>h
 generalize (fun v w'=>RpP (partsF s ds bu at_ l) w v w')=R at hR⊢
 refine Alloc.t (T.nil w) fun k3 w1 h1=>?_
 have h1:T [] w w1 [blk k3 (rwC s ds.length bu.length) 31]:=h1
 have c3:∀{w':World} {Γ:List A},T [] w w' Γ→blk k3 (rwC s ds.length bu.length) 31∈Γ→∀i v,(rwC s ds.length bu.length)[i]?=some v→w'.cell? ⟨k3,i,none⟩=some v:=fun h' hm i v hv=>h'.ld hm hv
 refine⟨_,_,_,_,_,_,_,_,_,⟨c3 h1 (by repeat constructor) 0 _ rfl,c3 h1 (by repeat constructor) 1 _ rfl,c3 h1 (by repeat constructor) 2 _ rfl,c3 h1 (by repeat constructor) 3 _ rfl,c3 h1 (by repeat constructor) 4 _ rfl⟩,?_⟩
 refine(byPlace_spec (h.ext h1.chg.ext) hdl (hp.ext h1.chg.ext) hll).mono fun e w2 hh=>?_
 rcases hh with⟨hn,⟨b,he2⟩,hx2⟩|⟨hO,b,G,hgr,he2,hT2⟩
 ·refine⟨_,_,he2,yes rfl (hR _ _ ?_)⟩
  unfold partsF
  rw[if_pos hn]
  exact⟨rfl,h1.chg.ext.trans hx2⟩
 have h2:T [] w w2 ((ouP b G::insP l G)++[blk k3 (rwC s ds.length bu.length) 31]):=T.call (Γ:=[]) h1 hT2
 have hpf:partsF s ds bu at_ l=if at_<0∨at_≥s.r then .error 70 else partsG s ds bu at_ l (offsC s l):=by unfold partsF; rw[if_neg (fun hh=>hh hO)]
 have m3:blk k3 (rwC s ds.length bu.length) 31∈(ouP b G::insP l G)++[blk k3 (rwC s ds.length bu.length) 31]:=List.mem_append_right _ (by repeat constructor)
 refine⟨_,_,he2,no rfl ⟨dec_t fun hb=>hR _ _ (by rw[hpf,if_pos (.inl hb)]; exact⟨rfl,h2.chg.ext⟩),dec_f fun hb0=>⟨_,c3 h2 m3 2 _ rfl,dec_t fun hb=>hR _ _ (by rw[hpf,if_pos (.inr hb)]; exact⟨rfl,h2.chg.ext⟩),dec_f fun hb1=>?_⟩⟩⟩
 have hat:0≤at_∧at_<s.r:=by omega
 rw[if_neg (by omega)]at hpf
 have hM:=hO.1
 have hG:=hM.1
 have hok:=hG
 unfold OkG at hok
 have hdl2:=hM.2.1
 obtain⟨C,hC⟩:∃C:Nat,s.c=(C:Int):=⟨s.c.toNat,by omega⟩
 refine⟨_,c3 h2 m3 0 _ rfl,_,_,_,⟨c3 h2 m3 0 _ rfl,c3 h2 m3 1 _ rfl,c3 h2 m3 2 _ rfl⟩,?_⟩
 refine(roles17_spec hG hat hC w2).mono fun e w3 ⟨gr,he3,hT3⟩=>⟨_,_,_,he3,?_⟩
 have h3:=T.call (Γ:=[]) h2 hT3
 clear h1 hT2 hT3
 have hoff:∀x∈l,0≤x.off∧x.off<s.k:=fun x hx=>(hO.2.1 x hx).2.1
 have hkp:=keys_perm hgr hoff
 have hkl:G.length=(offsC s l).length:=by have:=hkp.length_eq; rwa [List.length_map]at this
 have hOk:=offsC_le s l
 refine keys17_spec h3 (bm:=b) (l:=zE Prod.fst (fun y=>.map (some y.2)) G) (n:=(offsC s l).length) (List.mem_append_right _ (List.mem_append_left _ List.mem_cons_self)) (by rw[zE_len]; exact hkl) (by rw[zE_len]; omega) zE_born (by rw[zE_births]; exact List.nodup_range) (by rw[zE_keys]; exact hgr.1) (fun x hx=>?_) fun go capo w5 h5=>⟨_,_,_,rfl,?_⟩
 ·have hx1:x.1∈(zE Prod.fst (fun y:Int×Nat=>.map (some y.2)) G).map (·.1):=List.mem_map_of_mem hx
  rw[zE_keys]at hx1
  have:=(offsC_mem.1 (hkp.mem_iff.1 hx1)).1
  simp[Lit.wf,IntKind.min,IntKind.max,IntKind.bits,IntKind.signed]
  omega
 have hks:((zE Prod.fst (fun y:Int×Nat=>.map (some y.2)) G).map (·.1)).mergeSort leI=offsC s l:=by rw[zE_keys]; exact keys_offs hgr hoff
 rw[hks]at h5
 have h5:T [] w w5 (rowP 3 1 go (offsC s l).length capo (intsI (offsC s l))::([rowP 3 1 (some gr) C C (intsI ((List.range C).map fun r:Nat=>colR s at_ r))]++((ouP b G::insP l G)++[blk k3 (rwC s ds.length bu.length) 31]))):=h5
 generalize hΓ:rowP 3 1 go (offsC s l).length capo (intsI (offsC s l))::([rowP 3 1 (some gr) C C (intsI ((List.range C).map fun r:Nat=>colR s at_ r))]++((ouP b G::insP l G)++[blk k3 (rwC s ds.length bu.length) 31]))=Γ5 at h5
 have mO:rowP 3 1 go (offsC s l).length capo (intsI (offsC s l))∈Γ5:=by rw[←hΓ]; exact List.mem_cons_self
 have mR:rowP 3 1 (some gr) C C (intsI ((List.range C).map fun r:Nat=>colR s at_ r))∈Γ5:=by rw[←hΓ]; exact List.mem_cons_of_mem _ List.mem_cons_self
 have mB:ouP b G∈Γ5:=by rw[←hΓ]; exact List.mem_cons_of_mem _ (List.mem_cons_of_mem _ List.mem_cons_self)
 have mI:∀y∈G,inP y.2 (esC l y.1)∈Γ5:=fun y hy=>by
  rw[←hΓ]
  exact List.mem_cons_of_mem _ (List.mem_append_right _ (List.mem_append_left _ (List.mem_cons_of_mem _ (List.mem_map.2 ⟨y,hy,rfl⟩))))
 have m3:blk k3 (rwC s ds.length bu.length) 31∈Γ5:=by rw[←hΓ]; exact List.mem_cons_of_mem _ (List.mem_append_right _ (List.mem_append_right _ List.mem_cons_self))
 clear hΓ h2 h3
 have hw2:IntKind.i64.wrap (s.c-2)=((C-2:Nat):Int):=by rw[wrap64 _ (by omega) (by omega)]; omega
 have hw3:IntKind.i64.wrap (((C-2:Nat):Int)+1)=((C-2+1:Nat):Int):=by rw[wrap64 _ (by omega) (by omega)]; omega
 rw[hw2,hw3]
 have hk4:(offsC s l).length≤4:=by omega
 refine⟨fun vs w'=>∃(j:Nat) (gy:Option Nat) (cy:Nat) (Y:List RP),vs=[.slice (ptr gy) Y.length cy,.int .i64 (j:Int)]∧j≤(offsC s l).length∧partsG s ds bu at_ l ((offsC s l).take j)=.ok Y∧Y.length≤j*10∧T [] w w' (rowP 64 3 gy Y.length cy (rpL Y)::Γ5),
  fun vs _=>match vs with|[_,.int _ j]=>((offsC s l).length-j).toNat|_=>0,⟨0,none,0,[],rfl,by omega,rfl,by simp,T.nilRow h5 64 3⟩,?_⟩
 rintro vs w6 ⟨j,gy,cy,Y,rfl,hj,hY,hYl,h6⟩
 refine⟨_,_,_,_,rfl,dec_t fun hlt=>?_,dec_f fun hge=>?_⟩
 rotate_left
 ·obtain rfl:j=(offsC s l).length:=by omega
  rw[List.take_length]at hY
  refine hR _ _ ?_
  rw[hpf,hY]
  exact⟨gy,cy,rfl,T.leave (Γ:=[_]) h6⟩
 have hlt:j<(offsC s l).length:=by omega
 obtain⟨ao,hao,hco⟩:=(T.ints h6 (List.mem_cons_of_mem _ mO)).1.get' hlt
 have htake:(offsC s l).take (j+1)=(offsC s l).take j++[(offsC s l)[j]]:=by rw[List.take_add_one,List.getElem?_eq_getElem hlt]; rfl
 have hsplit:offsC s l=(offsC s l).take j++((offsC s l)[j]::(offsC s l).drop (j+1)):=by
  rw[←List.drop_eq_getElem_cons hlt,List.take_append_drop]
 have hom:(offsC s l)[j]∈offsC s l:=List.getElem_mem hlt
 generalize (offsC s l)[j]=o at hco htake hsplit hom
 have ho:=(offsC_mem.1 hom).1
 refine⟨ao,hao,by omega,by omega,o,by rw[Int.toNat_natCast]; exact hco,?_⟩
 refine⟨_,_,_,_,_,_,_,_,_,⟨c3 h6 (List.mem_cons_of_mem _ m3) 0 _ rfl,c3 h6 (List.mem_cons_of_mem _ m3) 1 _ rfl,c3 h6 (List.mem_cons_of_mem _ m3) 2 _ rfl,c3 h6 (List.mem_cons_of_mem _ m3) 3 _ rfl,c3 h6 (List.mem_cons_of_mem _ m3) 4 _ rfl⟩,?_⟩
 refine(filled16_spec (h.ext h6.chg.ext) hdl hF at_ o).mono fun e w7 ⟨v7,he7,hv7⟩=>?_
 cases hfil:filR s ds bu at_ o with
 |error n=>
  rw[hfil]at hv7
  obtain⟨hv,hx7⟩:=hv7
  rw[hv]at he7
  refine⟨_,_,_,_,_,_,_,he7,bne_t fun _=>hR _ _ ?_,bne_f fun h0=>absurd h0 (filR_err hfil)⟩
  have e:partsG s ds bu at_ l (offsC s l)=.error n:=by
   rw[hsplit,partsG_app,hY]
   simp only[partsG,hfil]
  rw[hpf,e]
  exact⟨rfl,h6.chg.ext.trans hx7⟩
 |ok x=>
  have hxl:x.1.length=C:=by rw[filR_len hfil]; omega
  obtain⟨mm,hmm,hall0,hx2⟩:=filR_short hfil
  rw[hfil]at hv7
  obtain⟨gl,cl,gi,ci,hv,hT7⟩:=hv7
  rw[hv]at he7
  refine⟨_,_,_,_,_,_,_,he7,bne_t fun h0=>absurd rfl h0,bne_f fun _=>?_⟩
  have h7:=(T.call (Γ:=[]) h6 hT7).drew
  have hcap:=(T.strs h7 (g:=gl) (L:=x.1) (n:=x.1.length) (cap:=cl) List.mem_cons_self).2.2
  obtain⟨gb,rfl⟩:=rowP.pos (h7.says List.mem_cons_self) (by omega)
  have h7:T [] w w7.drew (rowP 9 1 (some gb) x.1.length cl (txts x.1)::rowP 3 1 gi x.2.length ci (intsI x.2)::rowP 64 3 gy Y.length cy (rpL Y)::Γ5):=h7
  clear hT7
  refine⟨fun _=>True,trivial,AllocM.t h7 fun k71 w8 h8=>⟨trivial,?_⟩⟩
  refine⟨litTwo (P:=fun k=>k=((C-2:Nat):Int)∨k=((C-2+1:Nat):Int)) h8 (fun k=>Iff.rfl) fun ents clk w10 ha h10=>?_,litTwo (P:=fun k=>k=((C-2:Nat):Int)∨k=((C-2+1:Nat):Int)) h8 (fun k=>Or.comm) fun ents clk w10 ha h10=>?_⟩
  all_goals
   refine⟨fun vs w'=>∃(i:Nat) (ents:List Ent) (clk:Nat),vs=[.int .i64 (i:Int)]∧i≤x.2.length∧Ask ents (fun k=>(k=((C-2:Nat):Int)∨k=((C-2+1:Nat):Int))∨k∈x.2.take i)∧T [] w w' (mapP k71 ents clk::rowP 9 1 (some gb) x.1.length cl (txts x.1)::rowP 3 1 gi x.2.length ci (intsI x.2)::rowP 64 3 gy Y.length cy (rpL Y)::Γ5),
    fun vs _=>match vs with|[.int _ i]=>(x.2.length-i).toNat|_=>0,⟨0,ents,clk,rfl,by omega,ha.congr (fun k=>by simp),h10⟩,?_⟩
   clear ha h10
   rintro vs w11 ⟨i,ents,clk,rfl,hi,ha,h11⟩
   refine⟨_,rfl,dec_t fun hlt2=>?_,dec_f fun hge2=>?_⟩
   ·have hlt2:i<x.2.length:=by omega
    obtain⟨al,hal,hcl⟩:=(T.ints h11 (l:=x.2) (g:=gi) (n:=x.2.length) (cap:=ci) (by repeat constructor)).1.get' hlt2
    have ht2:x.2.take (i+1)=x.2.take i++[x.2[i]]:=by rw[List.take_add_one,List.getElem?_eq_getElem hlt2]; rfl
    obtain⟨w12,hr12,h12⟩:=ask_put h11 x.2[i]
    refine⟨al,hal,by omega,by omega,x.2[i],by rw[Int.toNat_natCast]; exact hcl,w12,hr12,⟨i+1,_,_,by rw[wrap64 _ (by omega) (by omega)]; rfl,by omega,ha.put (fun k=>?_),h12⟩,?_⟩
    ·rw[ht2,List.mem_append,List.mem_singleton]
     exact⟨fun hh=>by rcases hh with hh|hh|hh; exact .inr (.inl hh); exact .inr (.inr hh); exact .inl hh,fun hh=>by rcases hh with hh|hh|hh; exact .inr (.inr hh); exact .inl hh; exact .inr (.inl hh)⟩
    ·show((x.2.length:Int)-IntKind.i64.wrap ((i:Int)+1)).toNat<((x.2.length:Int)-(i:Int)).toNat
     rw[wrap64 _ (by omega) (by omega)]; omega
   obtain rfl:i=x.2.length:=by omega
   rw[List.take_length]at ha
   refine Join.intro fun J hJ=>?_
   have goJ:∀(ents:List Ent) (clk:Nat) (L':List Txt) (w13:World),Ask ents (fun k=>((k=((C-2:Nat):Int)∨k=((C-2+1:Nat):Int))∨k∈x.2)∨∃y∈esC l o,y.col=k)→L'.length=C→L'.take (C-2)=chgL l o x.1 (C-2)→Short (L'.take (C-2))→
     T [] w w13 (mapP k71 ents clk::rowP 9 1 (some gb) x.1.length cl (txts L')::rowP 3 1 gi x.2.length ci (intsI x.2)::rowP 64 3 gy Y.length cy (rpL Y)::Γ5)→J [] w13:=by
    intro ents clk L' w13 ha hL1 hL2 hS h13
    have hlt3:(L'.take (C-2)).length=C-2:=by rw[List.length_take]; omega
    have h13:=h13.drew
    have hst:∀{w':World},Ext w13.drew w'→strsL w' (some ⟨gb,0,none⟩) (L'.take (C-2)):=fun hx=>((T.strs h13 (g:=some gb) (L:=L') (n:=x.1.length) (cap:=cl) (by repeat constructor)).1.take (C-2)).ext hx
    have hP:=p_spec hS (by omega) (c:=cl) (hst (.refl _))
    rw[hlt3]at hP
    refine hJ _ _ ⟨rfl,fun _=>True,trivial,_,_,_,fun w' _=>strs_to (by omega) (by omega) w',?_⟩
    rw[Int.toNat_natCast]
    refine hP.mono fun e w14 ⟨he14,hx14⟩=>⟨_,he14,trivial,_,_,_,fun w' _=>strs_to (by omega) (by omega) w',?_⟩
    try dsimp only
    rw[Int.toNat_natCast]
    have hQ:=q_spec hS (by omega) (c:=cl) (by omega) (hst hx14)
    rw[hlt3]at hQ
    refine hQ.mono fun e w15 ⟨he15,hx15⟩=>⟨_,he15,trivial,⟨gb,0,none⟩,rfl,by omega,by omega,?_⟩
    have h15:=h13.quiet (hx14.trans hx15)
    try dsimp only
    rw[Int.toNat_natCast]
    refine StRow1.t h15 (.tail .head) (by rw[txts_len]; omega) rfl fun w16 h16=>⟨trivial,⟨gb,0,none⟩,rfl,by omega,by omega,?_⟩
    rw[txts_set]at h16
    try rw[Int.toNat_natCast]
    refine StRow1.t h16 .head (by rw[txts_len,List.length_set]; omega) rfl fun w17 h17=>?_
    rw[txts_set,set_two (n:=C-2) (by omega),hL2]at h17
    have hrow:chgL l o x.1 (C-2)++[sumT (chgL l o x.1 (C-2)),qT (chgL l o x.1 (C-2))]=rowF l o x.1:=by unfold rowF makeF; rw[hxl]
    rw[hrow]at h17
    have hrl:(rowF l o x.1).length=C:=by rw[rowF_len _ _ (by omega),hxl]
    refine⟨fun vs w'=>∃(i:Nat) (gz:Option Nat) (cz:Nat) (Z:List RP),vs=[.slice (ptr gz) Z.length cz,.int .i64 (i:Int)]∧i≤C∧Z=Y++(List.range i).flatMap (partR s ds at_ l o x)∧Z.length≤j*10+i∧T [] w w' (rowP 64 3 gz Z.length cz (rpL Z)::rowP 9 1 (some gb) x.1.length cl (txts (rowF l o x.1))::mapP k71 ents clk::rowP 3 1 gi x.2.length ci (intsI x.2)::Γ5),
     fun vs _=>match vs with|[_,.int _ i]=>(C-i).toNat|_=>0,⟨0,gy,cy,Y,rfl,by omega,by simp,by omega,?_⟩,?_⟩
    ·refine h17.swap ?_
     exact(List.perm_middle (l₁:=[_,_,_]))
    rintro vs w18 ⟨i,gz,cz,Z,rfl,hi,hZ,hZl,h18⟩
    refine⟨_,_,_,_,rfl,dec_t fun hlt4=>?_,dec_f fun hge4=>?_⟩
    ·have hlt4:i<C:=by omega
     obtain⟨ac,hac,hcc⟩:=(T.ints h18 (l:=(List.range C).map fun r:Nat=>colR s at_ r) (g:=some gr) (n:=C) (cap:=C) (List.mem_cons_of_mem _ (List.mem_cons_of_mem _ (List.mem_cons_of_mem _ (List.mem_cons_of_mem _ mR))))).1.get' (n:=i) (by simp; omega)
     have hcol:((List.range C).map fun r:Nat=>colR s at_ r)[i]'(by simp; omega)=colR s at_ i:=by rw[List.getElem_map,List.getElem_range]
     rw[hcol]at hcc
     have hcn:=colR_nat hG hat (role:=(i:Int)) (by omega)
     have hcb:0≤colR s at_ i∧colR s at_ i<(ds.length:Int):=by omega
     have hmeas:((C:Int)-IntKind.i64.wrap ((i:Int)+1)).toNat<((C:Int)-(i:Int)).toNat:=by rw[wrap64 _ (by omega) (by omega)]; omega
     have hwi:IntKind.i64.wrap ((i:Int)+1)=((i+1:Nat):Int):=by rw[wrap64 _ (by omega) (by omega)]; rfl
     have hflat:(List.range (i+1)).flatMap (partR s ds at_ l o x)=(List.range i).flatMap (partR s ds at_ l o x)++partR s ds at_ l o x i:=by rw[List.range_succ,List.flatMap_append]; simp
     have hq0:(0:Int)≤(i:Int):=by omega
     have hq1:(i:Int)<(C:Int):=by omega
     have hq2:i+1≤C:=by omega
     have hq3:Z.length+1≤j*10+(i+1):=by omega
     have hq4:Z.length≤j*10+(i+1):=by omega
     have hq5:(i:Int)<(x.1.length:Int):=by omega
     have hq6:i<(rowF l o x.1).length:=by omega
     have hq7:Z.length≤1000000:=by omega
     have hwant:wantB l o (x.1.length-2) x.2 i=true↔(((((i:Nat):Int)=((C-2:Nat):Int)∨((i:Nat):Int)=((C-2+1:Nat):Int))∨((i:Nat):Int)∈x.2)∨∃y∈esC l o,y.col=((i:Nat):Int)):=by
      unfold wantB
      rw[Bool.or_eq_true,Bool.or_eq_true,decide_eq_true_eq,decide_eq_true_eq,List.any_eq_true,hxl]
      have q1:C-2≤i↔(((i:Nat):Int)=((C-2:Nat):Int)∨((i:Nat):Int)=((C-2+1:Nat):Int)):=by omega
      refine or_congr (or_congr q1 Iff.rfl) (Iff.intro ?_ ?_)
      ·intro ⟨y,hy,hh⟩
       rw[Bool.and_eq_true]at hh
       exact⟨y,List.mem_filter.2 ⟨hy,hh.1⟩,by simpa using hh.2⟩
      ·intro ⟨y,hy,hh⟩
       obtain⟨m1,m2⟩:=List.mem_filter.1 hy
       exact⟨y,m1,by rw[Bool.and_eq_true]; exact⟨m2,by simpa using hh⟩⟩
     refine⟨ac,hac,hq0,hq1,colR s at_ i,by rw[Int.toNat_natCast]; exact hcc,?_⟩
     obtain⟨qb,hqb,hql⟩:=ha.look h18 (by repeat constructor) i
     refine⟨qb,w18,hql,fun hw=>?_,fun hw=>?_⟩
     ·have hw:=hwant.2 (hqb.1 hw)
      refine⟨_,_,_,_,_,_,_,_,_,⟨c3 h18 (by simp only[List.mem_cons]; exact .inr (.inr (.inr (.inr m3)))) 0 _ rfl,c3 h18 (by simp only[List.mem_cons]; exact .inr (.inr (.inr (.inr m3)))) 1 _ rfl,c3 h18 (by simp only[List.mem_cons]; exact .inr (.inr (.inr (.inr m3)))) 2 _ rfl,c3 h18 (by simp only[List.mem_cons]; exact .inr (.inr (.inr (.inr m3)))) 3 _ rfl,c3 h18 (by simp only[List.mem_cons]; exact .inr (.inr (.inr (.inr m3)))) 4 _ rfl⟩,?_⟩
      refine(there17_spec (h.ext h18.chg.ext) (col:=colR s at_ i) hcb).mono fun e w19 ⟨he19,hx19⟩=>⟨_,he19,fun ht=>?_,fun ht=>?_⟩
      ·have h19:=h18.quiet hx19
       have hpr:partR s ds at_ l o x i=[⟨colR s at_ i,o,(rowF l o x.1).getD i []⟩]:=by unfold partR; rw[hw,ht]; rfl
       rw[hpr]at hflat
       obtain⟨asx,has,hcs⟩:=(T.strs h19 (g:=some gb) (L:=rowF l o x.1) (n:=x.1.length) (cap:=cl) (by repeat constructor)).1.get (n:=i) hq6
       refine⟨asx,has,hq0,hq5,strB ((rowF l o x.1).getD i []),by rw[Int.toNat_natCast]; exact hcs,?_⟩
       refine pushN_t (P:=Tp) (t:=60) (i:=Tryz.t64) (z:=.agg #[.int .i64 0,.int .i64 0,.string (ByteArray.mk #[])]) (c:=rpC ⟨colR s at_ i,o,(rowF l o x.1).getD i []⟩) (size:=3) (by kernel_rfl) (by kernel_rfl) (by kernel_rfl) (by kernel_rfl) (by kernel_rfl) (by kernel_rfl) h19 .head rfl (fun u hu=>?_) hq7 fun g' cap' w20 h20=>?_
       ·have hu:u∈[Value.int .i64 (colR s at_ i),.int .i64 o,.string (strB ((rowF l o x.1).getD i []))]:=hu
        simp only[List.mem_cons,List.not_mem_nil,or_false]at hu
        rcases hu with rfl|rfl|rfl<;>rfl
       ·rw[←rpL_more]at h20
        have hZ1:(Z++[(⟨colR s at_ i,o,(rowF l o x.1).getD i []⟩:RP)]).length=Z.length+1:=by rw[List.length_append]; rfl
        rw[←hZ1]at h20⊢
        exact⟨⟨i+1,g',cap',_,by rw[hwi],hq2,by rw[hflat,hZ,List.append_assoc],by rw[hZ1]; exact hq3,h20⟩,hmeas⟩
      ·have hpr:partR s ds at_ l o x i=[]:=by unfold partR; rw[ht,Bool.and_false]; rfl
       rw[hpr,List.append_nil]at hflat
       exact⟨⟨i+1,gz,cz,Z,by rw[hwi],hq2,by rw[hflat]; exact hZ,hq4,h18.quiet hx19⟩,hmeas⟩
     ·have hw:wantB l o (x.1.length-2) x.2 i=false:=Bool.eq_false_iff.2 fun hh=>by rw[hqb.2 (hwant.1 hh)]at hw; cases hw
      have hpr:partR s ds at_ l o x i=[]:=by unfold partR; rw[hw,Bool.false_and]; rfl
      rw[hpr,List.append_nil]at hflat
      exact⟨⟨i+1,gz,cz,Z,by rw[hwi],hq2,by rw[hflat]; exact hZ,hq4,h18⟩,hmeas⟩
    ·obtain rfl:i=C:=by omega
     have hpo:partsO s ds at_ l o x=(List.range i).flatMap (partR s ds at_ l o x):=by unfold partsO; rw[hC,Int.toNat_natCast]
     refine⟨⟨j+1,gz,cz,Z,by rw[wrap64 _ (by omega) (by omega)]; rfl,by omega,?_,by omega,?_⟩,?_⟩
     ·rw[htake,partsG_snoc,hY]
      simp only[hfil]
      rw[hpo,←hZ]
     ·exact T.drop (T.drop (T.drop (h18.swap (List.perm_middle (l₁:=[_,_,_]) (a:=rowP 64 3 gz Z.length cz (rpL Z))).symm)))
     ·show(((offsC s l).length:Int)-IntKind.i64.wrap ((j:Int)+1)).toNat<(((offsC s l).length:Int)-(j:Int)).toNat
      rw[wrap64 _ (by omega) (by omega)]; omega
   obtain⟨bo,hfb⟩:=find_key (hkp.mem_iff.2 hom)
   have hz1:(zeroValue 43).run Tp w11=.ok (.map none) w11:=by kernel_rfl
   have hlk:=T.look (P:=Tp) (t:=117) (kt:=3) (e:=43) h11 (b:=b) (l:=zE Prod.fst (fun y=>.map (some y.2)) G) (clock:=G.length) (by simp only[List.mem_cons]; exact .inr (.inr (.inr (.inr mB)))) (by kernel_rfl) (by kernel_rfl) hz1 o
   rw[zE_get,hfb]at hlk
   have mIo:inP bo (esC l o)∈mapP k71 ents clk::rowP 9 1 (some gb) x.1.length cl (txts x.1)::rowP 3 1 gi x.2.length ci (intsI x.2)::rowP 64 3 gy Y.length cy (rpL Y)::Γ5:=by
    simp only[List.mem_cons]
    exact .inr (.inr (.inr (.inr (mI _ (List.mem_of_find?_eq_some hfb)))))
   have mI5:inP bo (esC l o)∈Γ5:=mI _ (List.mem_of_find?_eq_some hfb)
   have hrg:=run_range_map (P:=Tp) w11 43 3 9 bo _ _ (by kernel_rfl) (h11.got mIo)
   refine⟨_,w11,hlk,_,_,hrg,?_⟩
   have hTa:=h11.alloc (.mapIter (some bo) (esC l o).length #[] (esC l o).length)
   generalize w11.heap.size=it at hTa⊢
   have hesl:∀(q:Nat) (y:RP),(esC l o)[q]?=some y→y∈l∧y.off=o:=fun q y hy=>by
    obtain⟨m1,m2⟩:=List.mem_filter.1 (List.mem_of_getElem? hy)
    exact⟨m1,by simpa using m2⟩
   have hesn:∀(q q':Nat) (y y':RP),(esC l o)[q]?=some y→(esC l o)[q']?=some y'→y.col=y'.col→q=q':=by
    have hn:(esC l o).Pairwise (fun y y'=>y.col≠y'.col):=by
     have h0:=hO.2.2
     rw[List.Nodup,List.pairwise_map]at h0
     refine List.Pairwise.imp_of_mem ?_ (h0.filter _)
     intro a b ha hb hab e
     have e1:a.off=o:=by have:=(List.mem_filter.1 ha).2; simpa using this
     have e2:b.off=o:=by have:=(List.mem_filter.1 hb).2; simpa using this
     exact hab (by rw[e1,e2,e])
    intro q q' y y' hy hy' e
    obtain⟨q1,q2⟩:=List.getElem?_eq_some_iff.1 hy
    obtain⟨q3,q4⟩:=List.getElem?_eq_some_iff.1 hy'
    rcases Nat.lt_trichotomy q q' with hlt5|hlt5|hlt5
    ·exact absurd (by rw[q2,q4]; exact e) (List.pairwise_iff_getElem.1 hn q q' q1 q3 hlt5)
    ·exact hlt5
    ·exact absurd (by rw[q2,q4]; exact e.symm) (List.pairwise_iff_getElem.1 hn q' q q3 q1 hlt5)
   refine⟨fun vs w'=>∃(seen:Array Nat) (c0:Nat) (ents:List Ent) (clk:Nat) (L':List Txt),vs=[]∧(esC l o).length≤c0∧Ask ents (fun k=>((k=((C-2:Nat):Int)∨k=((C-2+1:Nat):Int))∨k∈x.2)∨∃q y,(esC l o)[q]?=some y∧seen.contains q=true∧y.col=k)∧L'.length=C∧
     (∀i:Nat,i<C→(∀q y,(esC l o)[q]?=some y→seen.contains q=true→y.col=(i:Int)→L'.getD i []=y.data)∧((∀q y,(esC l o)[q]?=some y→seen.contains q=true→y.col≠(i:Int))→L'.getD i []=x.1.getD i []))∧
     T [] w w' (ob it (.mapIter (some bo) (esC l o).length seen c0)::mapP k71 ents clk::rowP 9 1 (some gb) x.1.length cl (txts L')::rowP 3 1 gi x.2.length ci (intsI x.2)::rowP 64 3 gy Y.length cy (rpL Y)::Γ5),
    fun _ w'=>(leftOf ((zE RP.col (fun y:RP=>.string (strB y.data)) (esC l o)).map ent).toArray (w'.iterSeen it)).size,⟨#[],(esC l o).length,ents,clk,x.1,rfl,Nat.le_refl _,ha.congr (fun k=>?_),hxl,fun i hi=>⟨fun q y _ hh=>?_,fun _=>rfl⟩,hTa⟩,?_⟩
   ·exact⟨fun hh=>by
     rcases hh with hh|⟨q,y,_,hh,_⟩
     ·exact hh
     ·simp at hh,fun hh=>.inl hh⟩
   ·simp at hh
   clear ha h11 hlk hrg hTa
   rintro vs w12 ⟨seen,c0,ents,clk,L',rfl,hc0,ha,hL1,hL2,h12⟩
   refine⟨rfl,?_⟩
   have hborn:∀z∈((zE RP.col (fun y=>Value.string (strB y.data)) (esC l o)).map ent).toArray.toList,z.born<(esC l o).length:=fun z hz=>by
    obtain⟨u,hu,rfl⟩:=List.mem_map.1 (show z∈(zE RP.col (fun y=>Value.string (strB y.data)) (esC l o)).map ent from hz)
    exact zE_born u hu
   rcases next_t (P:=Tp) (ty:=0) h12 (bm:=bo) (r:=it) (since:=(esC l o).length) (c0:=c0) (clock:=(esC l o).length) (seen:=seen) (es:=((zE RP.col (fun y=>.string (strB y.data)) (esC l o)).map ent).toArray) (by simp only[List.mem_cons]; exact .inr (.inr (.inr (.inr (.inr mI5))))) List.mem_cons_self hborn hc0 with⟨h0,hrun⟩|⟨e,he,w13,hrun,hk⟩
   ·have hall:=all_seen _ _ h0
    have hsn:∀q y,(esC l o)[q]?=some y→seen.contains q=true:=fun q y hy=>hall (ent (y.col,.string (strB y.data),q)) (List.mem_map.2 ⟨_,zE_has (key:=RP.col) (val:=fun y=>Value.string (strB y.data)) hy,rfl⟩)
    have hget:∀i:Nat,i<C-2→L'.getD i []=(chgL l o x.1 (C-2)).getD i []:=fun i hi=>by
     rw[chgL_get hi]
     obtain⟨g1,g2⟩:=hL2 i (by omega)
     cases hf:l.find? (fun y=>y.off==o&&y.col==(i:Int)) with
     |some y=>
      have m1:=List.find?_some hf
      rw[Bool.and_eq_true]at m1
      obtain⟨q,hq⟩:=List.mem_iff_getElem?.1 (List.mem_filter.2 ⟨List.mem_of_find?_eq_some hf,m1.1⟩:y∈esC l o)
      exact g1 q y hq (hsn q y hq) (by simpa using m1.2)
     |none=>
      refine g2 fun q y hq _ hc=>?_
      obtain⟨m1,m2⟩:=hesl q y hq
      exact List.find?_eq_none.1 hf y m1 (by simp[m2,hc])
    refine .inl ⟨w12,hrun,(fun hh=>by cases hh),fun _=>goJ ents clk L' w12 (ha.congr fun k=>?_) hL1 ?_ ?_ (T.drop h12)⟩
    ·refine or_congr Iff.rfl ⟨fun⟨y,hy,hh⟩=>?_,fun⟨q,y,hy,_,hh⟩=>⟨y,List.mem_of_getElem? hy,hh⟩⟩
     obtain⟨q,hq⟩:=List.mem_iff_getElem?.1 hy
     exact⟨q,y,hq,hsn q y hq,hh⟩
    ·refine txt_ext (by rw[List.length_take,chgL_len]; omega) fun i hi=>?_
     rw[List.length_take]at hi
     rw[←hget i (by omega),List.getD_eq_getElem?_getD,List.getElem?_take,if_pos (by omega),List.getD_eq_getElem?_getD]
    ·intro z hz
     obtain⟨q,hq,rfl⟩:=List.getElem_of_mem hz
     rw[List.length_take]at hq
     have e1:(L'.take (C-2))[q]'(by rw[List.length_take]; exact hq)=L'.getD q []:=by rw[List.getElem_take,List.getD_eq_getElem?_getD,List.getElem?_eq_getElem (by omega)]; rfl
     rw[e1]
     obtain⟨g1,g2⟩:=hL2 q (by omega)
     by_cases hex:∃(q':Nat) (y:RP),(esC l o)[q']?=some y∧y.col=(q:Int)
     ·obtain⟨q',y,hy,hyc⟩:=hex
      rw[g1 q' y hy (hsn q' y hy) hyc,(hO.2.1 y (hesl q' y hy).1).2.2]
      omega
     ·rw[g2 fun q' y hy _ hyc=>hex ⟨q',y,hy,hyc⟩]
      have:=hall0 q (by omega)
      omega
   ·obtain⟨hmem,hns⟩:=mem_left he
    obtain⟨u,hu,hue⟩:=List.mem_map.1 (show e∈(zE RP.col (fun y=>Value.string (strB y.data)) (esC l o)).map ent from hmem)
    obtain⟨y,hy,hu1,hu2⟩:=zE_mem hu
    have ekey:e.key=.int .i64 y.col:=by rw[←hue,←hu1]; rfl
    have eval:e.val=.string (strB y.data):=by rw[←hue,←hu2]; rfl
    have eborn:e.born=u.2.2:=by rw[←hue]; rfl
    have h13:=hk _ .head
    rw[eborn]at hns
    have hnd:(((zE RP.col (fun y=>Value.string (strB y.data)) (esC l o)).map ent).toArray.toList.map (·.born)).Nodup:=by
     have e2:((zE RP.col (fun y=>Value.string (strB y.data)) (esC l o)).map ent).map (·.born)=(zE RP.col (fun y=>Value.string (strB y.data)) (esC l o)).map (·.2.2):=by rw[List.map_map]; rfl
     simp only[e2,zE_births]
     exact List.nodup_range
    have hent:(Instr.entry (.pointer (some ⟨it,0,none⟩))).run Tp w13=.ok (.tuple #[e.key,e.val]) w13:=entry_t (h13.got List.mem_cons_self) (h13.got (by simp only[List.mem_cons]; exact .inr (.inr (.inr (.inr (.inr mI5)))))) hmem hnd
    obtain⟨hym,hyo⟩:=hesl _ _ hy
    obtain⟨hyc,_,hyl⟩:=hO.2.1 y hym
    have hcn:y.col=((y.col.toNat:Nat):Int):=by omega
    have hM:(leftOf ((zE RP.col (fun y:RP=>.string (strB y.data)) (esC l o)).map ent).toArray (seen.push u.2.2)).size<(leftOf ((zE RP.col (fun y:RP=>.string (strB y.data)) (esC l o)).map ent).toArray seen).size:=by
     have:=left_shrinks _ _ _ he
     rwa [eborn]at this
    rw[eborn]at h13
    refine .inr ⟨_,_,w13,hrun,fun _=>⟨_,_,w13,hent,y.col,by rw[ekey],strB y.data,by rw[eval],⟨gb,0,none⟩,rfl,by omega,by omega,?_⟩,(fun hh=>by cases hh)⟩
    refine StRow1.t h13 (.tail (.tail .head)) (by rw[txts_len]; omega) rfl fun w14 h14=>?_
    rw[txts_set]at h14
    obtain⟨w15,hr15,h15⟩:=ask_put (h14.swap (List.perm_middle (l₁:=[_,_]) (a:=mapP k71 ents clk))) y.col
    refine⟨w15,hr15,⟨seen.push u.2.2,(esC l o).length,putK y.col (.bool true) ents clk,clockK y.col ents clk,L'.set y.col.toNat y.data,rfl,Nat.le_refl _,ha.put (fun k=>?_),by rw[List.length_set]; exact hL1,fun i hi=>?_,?_⟩,?_⟩
    ·constructor
     ·rintro(hh|⟨q,z,hz,hs,hc⟩)
      ·exact .inr (.inl hh)
      ·rw[contains_push,Bool.or_eq_true]at hs
       rcases hs with hs|hs
       ·exact .inr (.inr ⟨q,z,hz,hs,hc⟩)
       ·have:q=u.2.2:=by simpa using hs
        subst this
        rw[hy]at hz
        cases hz
        exact .inl hc.symm
     ·rintro(hh|hh|⟨q,z,hz,hs,hc⟩)
      ·exact .inr ⟨u.2.2,y,hy,by rw[contains_push]; simp,hh.symm⟩
      ·exact .inl hh
      ·exact .inr ⟨q,z,hz,by rw[contains_push,hs]; rfl,hc⟩
    ·obtain⟨g1,g2⟩:=hL2 i hi
     have eset:(L'.set y.col.toNat y.data).getD i []=if y.col.toNat=i then y.data else L'.getD i []:=by
      rw[List.getD_eq_getElem?_getD,List.getElem?_set]
      split
      ·rename_i e3; rw[if_pos (by omega)]; rfl
      ·rw[List.getD_eq_getElem?_getD]
     rw[eset]
     refine⟨fun q z hz hs hc=>?_,fun hn=>?_⟩
     ·by_cases e3:y.col.toNat=i
      ·rw[if_pos e3]
       have:=hesn _ _ _ _ hy hz (by omega)
       subst this
       rw[hy]at hz
       cases hz; rfl
      ·rw[if_neg e3]
       rw[contains_push,Bool.or_eq_true]at hs
       rcases hs with hs|hs
       ·exact g1 q z hz hs hc
       ·have:q=u.2.2:=by simpa using hs
        subst this
        rw[hy]at hz
        cases hz
        exact absurd (by omega) e3
     ·have e3:¬y.col.toNat=i:=fun e3=>hn u.2.2 y hy (by rw[contains_push]; simp) (by omega)
      rw[if_neg e3]
      exact g2 fun q z hz hs=>hn q z hz (by rw[contains_push,hs]; rfl)
    ·exact h15.swap (List.perm_middle (l₁:=[_,_]))
    ·have e1:w12.iterSeen it=seen:=by simp only[World.iterSeen,h12.got List.mem_cons_self]
     have e2:w15.iterSeen it=seen.push u.2.2:=by simp only[World.iterSeen,h15.got (b:=it) (by repeat constructor)]
     show(leftOf _ (w15.iterSeen it)).size<(leftOf _ (w12.iterSeen it)).size
     rw[e1,e2]
     exact hM
end Go.Proofs.YtkknkmplmilihaaGreat
end
