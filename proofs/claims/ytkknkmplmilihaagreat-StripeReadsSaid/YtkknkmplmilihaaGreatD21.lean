import Derived.Test.YtkknkmplmilihaaGreatD15
import Derived.Test.YtkknkmplmilihaaGreatD19
import Derived.Test.YtkknkmplmilihaaGreatD20
set_option linter.unusedSimpArgs false
set_option linter.unusedVariables false
set_option maxHeartbeats 4000000
set_option maxRecDepth 20000
section
namespace Go.Proofs.YtkknkmplmilihaaGreat
open Go.Sh Go.RowKit
section
variable {s:RwS}{ds:List Od}{bu:List Int}{N:Nat}{K:Nat→Nat}{f:Nat→Nat→ByteArray}{at_:Int}{l:List RP}{c q rj t cap m:Nat}{a:AD}{recs:List (Int×List RP)}{F:List Nat}{w0 w:World}{X:List A}{p:Option Addr}{Φ:Ending→World→Prop}
theorem apply_j (jb:Bool) (H:Ow (star (seK s ds bu) (drK q a)) F w0 w (blk rj (rgC q 3 0 (0+1+recs.length)) 128::X)) (hA:GoodA s ds bu N 0 K f at_ l c) (hl:ds.length=c) (hb:bu.length=c) (hR:RAt a 127 3 0 recs) (hlt:recs.length<3) (hm:m=l.length) (hl1:l.length≤1000) (hp:∀w',T F w0 w' X→partsAt w' p l)
  (hk:∀d' a' recs' w',MdS s d' bu N 0 K (stF s at_ l c f)→MdH d' N K (stF s at_ l c f)→d'.length=c→recs'.length≤recs.length+1→RAt a' 127 3 0 recs'→Ow (star (seK s d' bu) (drK q a')) F w0 w' (blk rj (rgC q 3 0 (0+1+recs'.length)) 128::X)→Φ (.returned (.int .i64 0)) w'):
  Calls Tp 16 #[.agg (rwC s c c),.pointer (jO jb rj),.int .i64 at_,.slice p m cap] w Φ:=by
 cases jb with
 |true=>
  refine apply_u H hA hl hb hR hlt hm hl1 hp fun d' a' recs' w' h1 h2 h3 h4 h5 h6=>hk d' a' recs' w' h1 h2 h3 ?_ h5 h6
  rw[h4]
  split
  ·omega
  ·rw[List.length_append]; exact Nat.le_refl _
 |false=>
  have hok:=hA.md.ok
  have hlen:=hA.md.len
  have h10:=hok.2.1
  obtain⟨p1,p2,p3,p4⟩:=hA.apN
  have hS:∀Z,Ow (seK s ds bu) F w0 w (blk rj (rgC q 3 0 (0+1+recs.length)) 128::X++Z)→Calls Tp 16 #[.agg (rwC s c c),.pointer (jO false rj),.int .i64 at_,.slice p m cap] w fun e w'=>e=.returned (.int .i64 0)∧Ow (seK s (Go.Proofs.YtkknkmplmilihaaGreat.apN s ds bu at_ l).2 bu) F w0 w' (blk rj (rgC q 3 0 (0+1+recs.length)) 128::X++Z):=fun Z hZ=>by
   have hS:=applyN_spec (at_:=at_) (l:=l) (m:=m) (c:=cap) (p:=p) (M:=0) hZ hm (fun w' h'=>hp w' (T.leave h').drop) (by omega) (by omega) hA.md.few (by omega)
   rw[hl,hb,p1]at hS
   exact hS
  exact(Ow.onFst H hS).mono fun e w1 ⟨he,h1⟩=>by rw[he]; exact hk _ a recs w1 (p2.fresh p3 (fun i hi=>hA.k2 i (by omega)) 0) p3 (by rw[p4,hl]) (by omega) hR h1
end
theorem find?_congr' {α:Type}{p q:α→Bool}:∀{l:List α},(∀x∈l,p x=q x)→l.find? p=l.find? q
 |[],_=>rfl
 |x::l,h=>by
  rw[List.find?_cons,List.find?_cons,h x List.mem_cons_self,find?_congr' fun y hy=>h y (List.mem_cons_of_mem _ hy)]
def updW (Z:List RP) (W:Int→Option (List UInt8)):Int→Option (List UInt8):=fun k=>match Z.find? (fun y=>keyP y==k) with
 |some y=>some y.data
 |none=>W k
theorem updW_snoc {Z:List RP}{y:RP}{W:Int→Option (List UInt8)}(h:¬∃z∈Z,keyP z=keyP y):updW (Z++[y]) W=fun k=>if k=keyP y then some y.data else updW Z W k:=by
 funext k
 unfold updW
 rw[List.find?_append]
 by_cases e:k=keyP y
 ·subst e
  have:Z.find? (fun z=>keyP z==keyP y)=none:=by
   rw[List.find?_eq_none]
   intro z hz hh
   exact h ⟨z,hz,by simpa using hh⟩
  rw[this,if_pos rfl]
  simp
 ·rw[if_neg e]
  have:[y].find? (fun z=>keyP z==k)=none:=by simp; exact fun e2=>e e2.symm
  rw[this,Option.or_none]
def WantE (ents:List Ent) (W:Int→Option (List UInt8)):Prop:=∀k,getK k ents=(W k).map fun t=>.string (strB t)
theorem WantE.put {ents:List Ent}{W:Int→Option (List UInt8)}(h:WantE ents W){k:Int}{t:List UInt8}{c:Nat}:WantE (putK k (.string (strB t)) ents c) (fun j=>if j=k then some t else W j):=fun j=>by
 rw[getQ_put]
 show _=Option.map _ (if j=k then some t else W j)
 by_cases e:j=k
 ·rw[if_pos e,if_pos e]; rfl
 ·rw[if_neg e,if_neg e]; exact h j
def RelW (s:RwS) (f:Nat→Nat→ByteArray) (at_:Int) (c:Nat) (W:Int→Option (List UInt8)):Prop:=∀i:Nat,i<c-2→∀o:Int,0≤o∧o<s.k→(rwT s f at_ o c).getD i []=(W ((i:Int)*8+o)).getD zeroSec.data.toList
theorem RelW.up {s:RwS}{ds:List Od}{bu:List Int}{N M:Nat}{K:Nat→Nat}{f:Nat→Nat→ByteArray}{at_:Int}{Z:List RP}{c:Nat}{W:Int→Option (List UInt8)}(h:RelW s f at_ c W) (hA:GoodA s ds bu N M K f at_ Z c):RelW s (stF s at_ Z c f) at_ c (updW Z W):=fun i hi o ho=>by
 have h4:=hA.md.ok
 obtain⟨o1,o2,o3,o4,o5,o6⟩:=h4
 rw[(hA.row ho).1]
 unfold rowF updW
 rw[makeF_get,chgL_len,rwT_len,if_pos hi,chgL_get hi]
 have e:Z.find? (fun x=>x.off==o&&x.col==(i:Int))=Z.find? (fun y=>keyP y==(i:Int)*8+o):=by
  refine find?_congr' fun x hx=>?_
  have:=hA.ch x hx
  rw[Bool.eq_iff_iff,Bool.and_eq_true,beq_iff_eq,beq_iff_eq,beq_iff_eq]
  unfold keyP
  omega
 rw[e]
 cases Z.find? (fun y=>keyP y==(i:Int)*8+o) with
 |some x=>rfl
 |none=>exact h i hi o ho
theorem reads17_law {a b d n3 n4:Int}(ha:0≤a∧a≤255) (hb:0≤b∧b≤255) (hd:0≤d∧d≤255) (h3:0≤n3∧n3≤255) (h4:0≤n4∧n4≤255) (jb:Bool){l m:List RP}{p1 p2:Option Addr}{c1 c2:Nat}{w:World}(hp:partsAt w p1 l) (hr:∀x∈l,RngC x) (hp2:partsAt w p2 m) (hr2:∀x∈m,RngC x):
  Ret Tp 3 #[.int .u8 a,.int .u8 b,.int .u8 d,.int .u8 n3,.int .u8 n4,.bool jb,.slice p1 l.length c1,.slice p2 m.length c2] w (.bool true):=by
 refine ret_of (revetmentlaw17_StripeReads_calls ?_)
 unfold revetmentlaw17_StripeReads
 refine(weighs17_spec hp).mono fun e w1 ⟨he1,hx1⟩=>⟨_,he1,fun hh=>shown17_end hx1,fun hh=>?_⟩
 refine(weighs17_spec (hp2.ext hx1)).mono fun e w2 ⟨he2,hx2⟩=>⟨_,he2,fun hh2=>shown17_end (hx1.trans hx2),fun hh2=>?_⟩
 refine(shown17_spec w2).mono fun e w3 ⟨he3,hx3⟩=>⟨_,he3,no rfl ?_⟩
 refine setup17 ha hb hd jb ((hx1.trans hx2).trans hx3) fun gc gk gr N s sr ds rs q u rj rk aj k1 k2 w4 e1 e2 e3 hN hrk hB H4=>?_
 obtain⟨ec,ek,er⟩:=hB.g
 have gb:(4≤gc∧gc≤7)∧(1≤gk∧gk≤3)∧(1≤gr∧gr≤6):=by omega
 obtain⟨c,hc⟩:∃c:Nat,gc=(c:Int):=⟨gc.toNat,by omega⟩
 obtain⟨hM,hH,hl⟩:=hB.md (by unfold OkG; omega) hN
 have hcn:gc.toNat=c:=by omega
 rw[hcn]at hM hl H4
 generalize hP:pC s sr c q u (jO jb rj) (jO jb rk)=P at H4
 have P12:∀(i:Nat) (v:Value),(pC s sr c q u (jO jb rj) (jO jb rk))[i]?=some v→P[i]?=some v:=fun i v h=>by rw[←hP]; exact h
 have H4:Ow (star (seK s ds (List.replicate c gr)) (drK q aj)) [] w w4 (blk rj (rgC q 3 0 1) 128::[blk k2 P 40,geoA k1 gc gk gr]):=by
  refine Ow.leave (Z:=[blk rk (krC u 0 1) 167]) (H4.fst.perm ?_)
  classical
  refine List.perm_iff_count.2 fun x=>?_
  simp only[geoA,List.count_append,List.count_cons,List.count_nil,Nat.zero_add,Nat.add_zero]
  ac_rfl
 have hlb:(List.replicate c gr).length=c:=List.length_replicate
 have hok:=hM.ok
 obtain⟨at_,hat,hatr⟩:=tm17 (n:=gr) hd (by omega)
 have hat':0≤(at_:Int)∧(at_:Int)<s.r:=by omega
 have hsc:s.c=(c:Int):=by omega
 obtain⟨x,hx,hxc⟩:=tm17 (n:=gc) h3 (by omega)
 obtain⟨y,hy,hyc⟩:=tm17 (n:=gc) h4 (by omega)
 obtain⟨g1,g2,hpd,hpb⟩:=se_pd H4
 have hcr:=fun r:Nat=>colR_nat hok hat' (role:=(r:Int))
 have hinj:∀r r':Nat,r<c→r'<c→(colR s at_ r).toNat=(colR s at_ r').toNat→r=r':=fun r r' h1 h2 h=>by
  have q1:=hcr r (by omega)
  have q2:=hcr r' (by omega)
  have:=colR_inj hok hat' (a:=(r:Int)) (b:=(r':Int)) (by omega) (by omega) (by omega)
  omega
 have lens:∀{Z:List RP},weighsR Z=false→Z.length≤30∧∀x∈Z,x.data.length≤1000000:=fun h=>⟨(weighsR_short h).1,fun x hx=>by have:=(weighsR_short h).2 x hx; omega⟩
 refine⟨_,H4.ld (b:=k1) (by repeat constructor) rfl,by omega,?_⟩
 obtain⟨Y4,hY4,hT4⟩:=H4
 refine AllocM.t hT4 fun k65 w5 h5=>?_
 have H5:Ow (star (seK s ds (List.replicate c gr)) (drK q aj)) [] w w5 (blk rj (rgC q 3 0 (0+1+([]:List (Int×List RP)).length)) 128::[mapP k65 [] 0,blk k2 P 40,geoA k1 gc gk gr]):=⟨Y4,hY4,h5.swap (.swap _ _ _)⟩
 clear h5 hT4 hY4
 let St9:Nat→World→Prop:=fun i w'=>∃(dv:List Od) (f:Nat→Nat→ByteArray) (W:Int→Option (List UInt8)) (ents:List Ent) (clk:Nat) (a':AD) (recs:List (Int×List RP)),MdS s dv (List.replicate c gr) N 0 (fun _=>0) f∧MdH dv N (fun _=>0) f∧dv.length=c∧(∀off,0≤off∧off<s.k→GoodL (rwT s f at_ off c) 64)∧RelW s f at_ c W∧WantE ents W∧recs.length≤i∧RAt a' 127 3 0 recs∧Ow (star (seK s dv (List.replicate c gr)) (drK q a')) [] w w' (blk rj (rgC q 3 0 (0+1+recs.length)) 128::[mapP k65 ents clk,blk k2 P 40,geoA k1 gc gk gr])
 refine⟨fun vs w'=>∃i:Nat,vs=[.int .i64 (i:Int)]∧((i≤1∧St9 i w')∨(i=2∧Ext w w')),fun vs _=>match vs with|[.int _ i]=>(2-i).toNat|_=>0,⟨0,rfl,.inl ⟨by omega,ds,_,fun _=>none,[],0,aj,[],hM,hH,hl,fun off ho=>zero_row s at_ off (by omega) (by omega),fun i hi o ho=>?_,fun _=>rfl,Nat.le_refl _,hB.ring,H5⟩⟩,?_⟩
 ·rw[rwT_get _ _ _ _ (by omega)]; rfl
 clear H5 hM hH hl
 rintro vs w6 ⟨i,rfl,hi⟩
 refine⟨_,rfl,dec_t fun hlt=>?_,dec_f fun hge=>?_⟩
 rotate_left
 ·rcases hi with⟨h,_⟩|⟨_,hx⟩
  ·omega
  ·exact⟨rfl,hx⟩
 rcases hi with⟨hi1,dv,f,W,ents,clk,a',recs,hMd,hHd,hld,hgd,hRel,hWt,hrl,hR,H6⟩|⟨h,_⟩
 rotate_left
 ·omega
 refine Join.intro fun J hJ=>?_
 have hme:(2-IntKind.i64.wrap ((i:Int)+1)).toNat<(2-(i:Int)).toNat:=by rw[wrap64 _ (by omega) (by omega)]; omega
 have hwi:IntKind.i64.wrap ((i:Int)+1)=((i+1:Nat):Int):=by rw[wrap64 _ (by omega) (by omega)]; rfl
 have go:∀(nl:List RP) (pn:Option Addr) (cn:Nat) (d2:List Od) (bu:List Int) (K:Nat→Nat) (w7:World),weighsR nl=false→partsAt w pn nl→(∀x∈nl,RngC x)→MdS s d2 bu N 0 K f→MdH d2 N K f→d2.length=c→bu.length=c→(∀j,j<c→K j≠2)→(misL (lostK s bu K at_) c).length≤2→(i=0→K=(fun _=>0)∧bu=List.replicate c gr)→Ow (star (seK s d2 bu) (drK q a')) [] w w7 (blk rj (rgC q 3 0 (0+1+recs.length)) 128::[mapP k65 ents clk,blk k2 P 40,geoA k1 gc gk gr])→J [.slice pn nl.length cn] w7:=by
  intro nl pn cn d2 bu K w7 hw hpn hrn hM2 hH2 hl2 hb2 hK2 hfew hi0 H7
  obtain⟨hn30,hn100⟩:=lens hw
  refine hJ _ _ ⟨_,_,_,rfl,?_⟩
  obtain⟨Y,hY,hT7⟩:=H7
  refine AllocM.t hT7 fun k93 w8 h8=>Alloc.t h8 fun k94 w9 h9=>?_
  have h9:T [] w w9 (rowP 47 3 (some k94) 0 0 (rpL [])::mapP k93 [] 0::mapP k65 ents clk::([blk rj (rgC q 3 0 (0+1+recs.length)) 128,blk k2 P 40,geoA k1 gc gk gr]++Y)):=by
   refine(blk_rowN h9 rfl).swap (List.Perm.cons _ (List.Perm.cons _ ?_))
   exact .swap _ _ _
  have hG1:geoA k1 gc gk gr∈([blk rj (rgC q 3 0 (0+1+recs.length)) 128,blk k2 P 40,geoA k1 gc gk gr]++Y):=(by repeat constructor)
  generalize hΓ:[blk rj (rgC q 3 0 (0+1+recs.length)) 128,blk k2 P 40,geoA k1 gc gk gr]++Y=Γ at h9 hG1
  refine⟨fun vs w'=>∃(j:Nat) (g:Option Nat) (cap clS clW:Nat) (es ew:List Ent) (Z:List RP),vs=[.slice (ptr g) Z.length cap,.int .i64 (j:Int)]∧j≤nl.length∧Z=distR gc gk (nl.take j)∧Ask es (fun n=>∃y∈Z,keyP y=n)∧WantE ew (updW Z W)∧T [] w w' (rowP 47 3 g Z.length cap (rpL Z)::mapP k93 es clS::mapP k65 ew clW::Γ),
   fun vs _=>match vs with|[_,.int _ i]=>(nl.length-i).toNat|_=>0,⟨0,some k94,0,0,clk,[],ents,[],rfl,by omega,rfl,Ask.congr Ask.nil (by simp),hWt,h9⟩,?_⟩
  clear h8 h9 hT7
  rintro vs w10 ⟨j,g,cap,clS,clW,es,ew,Z,rfl,hj,hZ,hA,hWn,h10⟩
  refine⟨_,_,_,_,rfl,dec_t fun hlt=>?_,dec_f fun hge=>?_⟩
  ·have hlt:j<nl.length:=by omega
   obtain⟨ad,had,-,-,-⟩:=hpn.get hlt
   have hcl:∀w',Ext w w'→w'.cell? (ad.add (j*3))=some (.int .i64 (nl[j]).col)∧w'.cell? ((ad.add (j*3)).add 1)=some (.int .i64 (nl[j]).off)∧w'.cell? ((ad.add (j*3)).add 2)=some (.string (strB (nl[j]).data)):=fun w' hx=>by
    obtain⟨a',ha',h⟩:=(hpn.ext hx).get hlt
    rw[had]at ha'; cases ha'; exact h
   have hrx:=hrn nl[j] (List.getElem_mem hlt)
   have hdx:=hn100 nl[j] (List.getElem_mem hlt)
   have htake:nl.take (j+1)=nl.take j++[nl[j]]:=by rw[List.take_add_one,List.getElem?_eq_getElem hlt]; rfl
   generalize nl[j]=x at hcl hrx hdx htake
   have hn:=normR_in (c:=gc) (k:=gk) (by omega) (by omega) x
   have hdat:=normR_data (c:=gc) (k:=gk) (x:=x)
   have hnx:distR gc gk (nl.take (j+1))=if Z.any (sameP (normR gc gk x)) then Z else Z++[normR gc gk x]:=by
    unfold distR at hZ⊢
    rw[htake,List.map_append,hZ]
    exact dstF_snoc _ _
   have hcol:Int.tmod (absI x.col) (IntKind.i64.wrap (gc-2))=(normR gc gk x).col:=by
    rw[wrap64 (gc-2) (by omega) (by omega),Int.tmod_eq_emod_of_nonneg (absI_in hrx.1).1]; rfl
   have hoff:Int.tmod (absI x.off) gk=(normR gc gk x).off:=by
    rw[Int.tmod_eq_emod_of_nonneg (absI_in hrx.2).1]; rfl
   generalize normR gc gk x=y at hn hdat hnx hcol hoff
   have hZin:∀z∈Z,0≤z.off∧z.off<8:=fun z hz=>by
    rw[hZ]at hz
    have:=(distR_ok (c:=gc) (k:=gk) (by omega) (by omega) (l:=nl.take j)).1 z hz
    omega
   have hZl:Z.length≤1000:=by
    have:=dstF_len ((nl.take j).map (normR gc gk))
    rw[List.length_map,List.length_take]at this
    rw[hZ]; unfold distR; omega
   have hky:IntKind.i64.wrap (IntKind.i64.wrap (y.col*8)+y.off)=keyP y:=by
    rw[wrap64 (y.col*8) (by omega) (by omega),wrap64 _ (by omega) (by omega)]; rfl
   have hany:Z.any (sameP y)=true↔∃z∈Z,keyP z=keyP y:=by
    rw[List.any_eq_true]
    refine exists_congr fun z=>and_congr_right fun hz=>?_
    rw[sameP_iff,keyP_inj (hZin z hz) (by omega)]
   have hmeas:((nl.length:Int)-IntKind.i64.wrap ((j:Int)+1)).toNat<((nl.length:Int)-(j:Int)).toNat:=by rw[wrap64 _ (by omega) (by omega)]; omega
   have hwj:IntKind.i64.wrap ((j:Int)+1)=((j+1:Nat):Int):=by rw[wrap64 _ (by omega) (by omega)]; rfl
   have hfs:(strB x.data).size≤9000000000000000000:=by rw[strB_size]; omega
   refine⟨fun w'=>T [] w w' (rowP 47 3 g Z.length cap (rpL Z)::mapP k93 es clS::mapP k65 ew clW::Γ),h10.drew,ad,had,by omega,by omega,x.col,fun w' h'=>by rw[Int.toNat_natCast]; exact(hcl w' h'.chg.ext).1,gc,fun w' h'=>h'.ld (b:=k1) (by simp only[List.mem_cons]; exact .inr (.inr (.inr hG1))) rfl,ad,had,by omega,by omega,x.off,fun w' h'=>by rw[Int.toNat_natCast]; exact(hcl w' h'.chg.ext).2.1,gk,fun w' h'=>h'.ld (b:=k1) (by simp only[List.mem_cons]; exact .inr (.inr (.inr hG1))) rfl,ad,had,by omega,by omega,strB x.data,fun w' h'=>by rw[Int.toNat_natCast]; exact(hcl w' h'.chg.ext).2.2,?_⟩
   have hc2:IntKind.i64.wrap (gc-2)≠0:=by rw[wrap64 (gc-2) (by omega) (by omega)]; omega
   have hk0:gk≠0:=by omega
   have h4:=h10
   refine⟨(abs17_spec hrx.1 _).mono fun e w5 ⟨he5,hx5⟩=>⟨_,he5,h4.drew.quiet hx5,hc2,⟨(abs17_spec hrx.2 _).mono fun e w6 ⟨he6,hx6⟩=>⟨_,he6,(h4.drew.quiet hx5).quiet hx6,hk0,⟨(full17_spec _ hfs _).mono fun e w7 ⟨he7,hx7⟩=>⟨_,he7,((h4.drew.quiet hx5).quiet hx6).quiet hx7,Alloc.t (((h4.drew.quiet hx5).quiet hx6).quiet hx7) fun k8 w8 h8=>⟨T.drop h8,?_⟩⟩,Alloc.t ((h4.drew.quiet hx5).quiet hx6) fun k8 w7 h7=>⟨T.drop h7,(full17_spec _ hfs _).mono fun e w8 ⟨he8,hx8⟩=>⟨_,he8,(T.drop h7).quiet hx8,?_⟩⟩⟩⟩,
    Alloc.t (h4.drew.quiet hx5) fun k8 w6 h6=>⟨T.drop h6,(abs17_spec hrx.2 _).mono fun e w7 ⟨he7,hx7⟩=>⟨_,he7,(T.drop h6).quiet hx7,hk0,(full17_spec _ hfs _).mono fun e w8 ⟨he8,hx8⟩=>⟨_,he8,((T.drop h6).quiet hx7).quiet hx8,?_⟩⟩⟩⟩⟩,Alloc.t h4.drew fun k8 w5 h5=>⟨T.drop h5,(abs17_spec hrx.1 _).mono fun e w6 ⟨he6,hx6⟩=>⟨_,he6,(T.drop h5).quiet hx6,hc2,(abs17_spec hrx.2 _).mono fun e w7 ⟨he7,hx7⟩=>⟨_,he7,((T.drop h5).quiet hx6).quiet hx7,hk0,(full17_spec _ hfs _).mono fun e w8 ⟨he8,hx8⟩=>⟨_,he8,(((T.drop h5).quiet hx6).quiet hx7).quiet hx8,?_⟩⟩⟩⟩⟩
   all_goals
    rw[hcol,hoff,←hdat]
    refine St3.t (y:=y) (by first|exact h8|exact h7.quiet hx8|exact(h6.quiet hx7).quiet hx8|exact((h5.quiet hx6).quiet hx7).quiet hx8) fun w11 h11=>?_
    have c8:∀{w':World} {Γ:List A},T [] w w' (blk k8 (rpC y) 47::Γ)→∀i v,(rpC y)[i]?=some v→w'.cell? ⟨k8,i,none⟩=some v:=fun h' i v hv=>h'.ld List.mem_cons_self hv
    refine Join.intro fun J2 hJ2=>?_
    have go2:∀(w':World) (g':Option Nat) (cap' cl':Nat) (ew':List Ent) (Z':List RP),Z'=distR gc gk (nl.take (j+1))→(∀n,(∃z∈Z',keyP z=n)↔(n=keyP y∨∃z∈Z,keyP z=n))→WantE ew' (updW Z' W)→T [] w w' (blk k8 (rpC y) 47::rowP 47 3 g' Z'.length cap' (rpL Z')::mapP k93 es clS::mapP k65 ew' cl'::Γ)→J2 [.slice (ptr g') Z'.length cap'] w':=by
     intro w' g' cap' cl' ew' Z' hZ' hQ hW' h'
     obtain⟨w12,hr12,h12⟩:=ask_put (h'.swap (Pick.perm (a:=mapP k93 es clS) (.tail (.tail .head)))) (keyP y)
     refine hJ2 _ _ ⟨_,_,_,rfl,_,c8 h' 0 _ rfl,_,c8 h' 1 _ rfl,w12,by rw[hky]; exact hr12,⟨j+1,g',cap',clockK (keyP y) es clS,cl',putK (keyP y) (.bool true) es clS,ew',Z',by rw[hwj],by omega,hZ',hA.put hQ,hW',?_⟩,hmeas⟩
     exact T.drop (h12.swap ((List.Perm.swap _ _ _).trans (List.Perm.cons _ (.swap _ _ _))))
    obtain⟨qb,hq,hlook⟩:=hA.look h11 (b:=k93) (clk:=clS) (by simp) (keyP y)
    refine⟨_,c8 h11 0 _ rfl,_,c8 h11 1 _ rfl,qb,w11,by rw[hky]; exact hlook,fun hnq=>?_,fun hnq=>?_⟩
    ·have hqf:¬∃z∈Z,keyP z=keyP y:=fun hh=>by rw[hq.2 hh]at hnq; cases hnq
     have hna:Z.any (sameP y)=false:=Bool.eq_false_iff.2 fun hh=>hqf (hany.1 hh)
     refine⟨_,_,_,⟨c8 h11 0 _ rfl,c8 h11 1 _ rfl,c8 h11 2 _ rfl⟩,?_⟩
     refine pushN_t (P:=Tp) (t:=22) (i:=Tryz.t47) (z:=.agg #[.int .i64 0,.int .i64 0,.string (ByteArray.mk #[])]) (c:=rpC y) (size:=3) (by kernel_rfl) (by kernel_rfl) (by kernel_rfl) (by kernel_rfl) (by kernel_rfl) (by kernel_rfl) (h11.swap (Pick.perm (a:=rowP 47 3 g Z.length cap (rpL Z)) (.tail .head))) .head rfl (fun u hu=>?_) (by omega) fun g' cap' w12 h12=>?_
     ·have hu:u∈[Value.int .i64 y.col,.int .i64 y.off,.string (strB y.data)]:=hu
      simp only[List.mem_cons,List.not_mem_nil,or_false]at hu
      rcases hu with rfl|rfl|rfl<;>rfl
     ·rw[←rpL_more]at h12
      have hZ1:(Z++[y]).length=Z.length+1:=by rw[List.length_append]; rfl
      rw[←hZ1]at h12⊢
      have h12:=h12.swap (.swap _ _ _)
      obtain⟨w13,hr13,h13⟩:=mapUpdate_t (P:=Tp) (t:=43) (kt:=3) (e:=9) (k:=keyP y) (v:=.string (strB y.data)) (by kernel_rfl) (by kernel_rfl) (h12.swap (Pick.perm (a:=mapP k65 ew clW) (.tail (.tail (.tail .head))))) .head
      refine⟨_,c8 h12 0 _ rfl,_,c8 h12 1 _ rfl,_,c8 h12 2 _ rfl,w13,by rw[hky]; exact hr13,go2 w13 g' cap' (clockK (keyP y) ew clW) (putK (keyP y) (.string (strB y.data)) ew clW) (Z++[y]) (by rw[hnx,if_neg (by rw[hna]; decide)]) (fun n=>?_) (by rw[updW_snoc hqf]; exact hWn.put) (h13.swap ?_)⟩
      ·constructor
       ·rintro⟨z,hz,rfl⟩
        rcases List.mem_append.1 hz with hz|hz
        ·exact .inr ⟨z,hz,rfl⟩
        ·exact .inl (by rw[List.mem_singleton.1 hz])
       ·rintro(rfl|⟨z,hz,rfl⟩)
        ·exact⟨y,by simp,rfl⟩
        ·exact⟨z,List.mem_append_left _ hz,rfl⟩
      ·exact(List.Perm.swap _ _ _).trans (List.Perm.cons _ ((List.Perm.swap _ _ _).trans (List.Perm.cons _ (.swap _ _ _))))
    ·have hqt:∃z∈Z,keyP z=keyP y:=hq.1 (by cases qb with|true=>rfl|false=>cases hnq)
     refine go2 w11 g cap clW ew Z (by rw[hnx,if_pos (hany.2 hqt)]) (fun n=>⟨fun hh=>.inr hh,fun hh=>?_⟩) hWn h11
     rcases hh with rfl|hh
     ·exact hqt
     ·exact hh
  obtain rfl:j=nl.length:=by omega
  rw[List.take_length]at hZ
  have hD:=distR_ok (c:=gc) (k:=gk) (by omega) (by omega) (l:=nl)
  have hDl:Z.length≤1000:=by
   have:=dstF_len (nl.map (normR gc gk))
   rw[List.length_map]at this
   rw[hZ]; unfold distR; omega
  rw[←hZ]at hD
  subst hΓ
  have H10:Ow (star (seK s d2 bu) (drK q a')) [] w w10 (blk rj (rgC q 3 0 (0+1+recs.length)) 128::[rowP 47 3 g Z.length cap (rpL Z),mapP k65 ew clW,blk k2 P 40,geoA k1 gc gk gr]):=by
   refine⟨Y,hY,T.leave (Δ:=[mapP k93 es clS]) (h10.swap ?_)⟩
   classical
   refine List.perm_iff_count.2 fun x=>?_
   simp only[geoA,List.count_append,List.count_cons,List.count_nil,Nat.zero_add,Nat.add_zero]
   ac_rfl
  have hgA:GoodA s d2 bu N 0 K f at_ Z c:=⟨hM2,hH2,fun j hj=>hK2 j (by omega),hat',hsc,hgd,hfew,fun x hx=>by have:=hD.1 x hx; omega,hD.2⟩
  have q2:∀{h:Kd} {w':World} {X:List A},Ow h [] w w' X→blk k2 P 40∈X→∀i v,(pC s sr c q u (jO jb rj) (jO jb rk))[i]?=some v→w'.cell? ⟨k2,i,none⟩=some v:=fun h' hm i v hv=>h'.ld hm (P12 i v hv)
  refine⟨_,_,_,_,_,_,_,_,_,⟨q2 H10 (by repeat constructor) 0 _ rfl,q2 H10 (by repeat constructor) 1 _ rfl,q2 H10 (by repeat constructor) 2 _ rfl,q2 H10 (by repeat constructor) 3 _ rfl,q2 H10 (by repeat constructor) 4 _ rfl⟩,_,q2 H10 (by repeat constructor) 12 _ rfl,?_⟩
  rw[hat]
  refine apply_j jb H10 hgA hl2 hb2 hR (by omega) rfl hDl (fun w' h'=>T.partsT h' (t:=47) (n:=Z.length) (cap:=cap) (by repeat constructor)) fun d3 a3 recs3 w14 hM3 hH3 hl3 hr3 hR3 H14=>⟨_,rfl,no rfl ?_⟩
  have hRel3:=hRel.up hgA
  have hgd3:∀off,0≤off∧off<s.k→GoodL (rwT s (stF s at_ Z c f) at_ off c) 64:=fun off ho=>(hgA.row ho).2
  have H14:Ow (star (seK s d3 bu) (drK q a3)) [] w w14 [blk rj (rgC q 3 0 (0+1+recs3.length)) 128,mapP k65 ew clW,blk k2 P 40,geoA k1 gc gk gr]:=H14.perm (.swap _ _ _) |>.dropX
  generalize stF s at_ Z c f=f3 at hM3 hH3 hRel3 hgd3
  generalize updW Z W=W3 at hWn hRel3
  have hK2':∀i,i<d3.length→K i≠2:=fun j hj=>hK2 j (by omega)
  refine⟨fun vs w'=>∃j:Nat,vs=[.int .i64 (j:Int)]∧j≤c-2∧Ow (star (seK s d3 bu) (drK q a3)) [] w w' [blk rj (rgC q 3 0 (0+1+recs3.length)) 128,mapP k65 ew clW,blk k2 P 40,geoA k1 gc gk gr],fun vs _=>match vs with|[.int _ i]=>(c-2-i).toNat|_=>0,⟨0,rfl,by omega,H14⟩,?_⟩
  clear H14 H10 h10
  rintro vs w15 ⟨j,rfl,hj,H15⟩
  refine⟨_,rfl,_,H15.ld (b:=k1) (by repeat constructor) rfl,?_⟩
  rw[wrap64 (gc-2) (by omega) (by omega)]
  refine⟨dec_t fun hjt=>?_,dec_f fun hjg=>?_⟩
  rotate_left
  ·refine⟨⟨i+1,by rw[hwi],?_⟩,hme⟩
   by_cases e0:i=0
   ·obtain⟨eK,eb⟩:=hi0 e0
    subst eK eb
    exact .inl ⟨by omega,d3,f3,W3,ew,clW,a3,recs3,hM3,hH3,hl3,hgd3,hRel3,hWn,by omega,hR3,H15⟩
   ·exact .inr ⟨by omega,H15.ext⟩
  refine⟨fun vs w'=>∃o:Nat,vs=[.int .i64 (o:Int)]∧(o:Int)≤gk∧Ow (star (seK s d3 bu) (drK q a3)) [] w w' [blk rj (rgC q 3 0 (0+1+recs3.length)) 128,mapP k65 ew clW,blk k2 P 40,geoA k1 gc gk gr],fun vs _=>match vs with|[.int _ i]=>(gk-i).toNat|_=>0,⟨0,rfl,by omega,H15⟩,?_⟩
  clear H15
  rintro vs w16 ⟨o,rfl,ho,H16⟩
  refine⟨_,rfl,_,H16.ld (b:=k1) (by repeat constructor) rfl,dec_t fun hot=>?_,dec_f fun hog=>⟨⟨j+1,by rw[wrap64 _ (by omega) (by omega)]; rfl,by omega,H16⟩,?_⟩⟩
  rotate_left
  ·show((c:Int)-2-IntKind.i64.wrap ((j:Int)+1)).toNat<((c:Int)-2-(j:Int)).toNat
   rw[wrap64 _ (by omega) (by omega)]; omega
  have hky:IntKind.i64.wrap (IntKind.i64.wrap ((j:Int)*8)+(o:Int))=(j:Int)*8+(o:Int):=by rw[wrap64 ((j:Int)*8) (by omega) (by omega),wrap64 _ (by omega) (by omega)]
  have hlk:=T.look2 (P:=Tp) (t:=43) (kt:=3) (e:=9) (z:=.string (ByteArray.mk #[])) H16.under (b:=k65) (l:=ew) (clock:=clW) (by repeat constructor) (by kernel_rfl) (by kernel_rfl) (by kernel_rfl) ((j:Int)*8+(o:Int))
  have hlks:∃(s0:ByteArray) (b0:Bool),(Instr.lookup 43 (.map (some k65)) (.int .i64 ((j:Int)*8+(o:Int))) true).run Tp w16=.ok (.tuple #[.string s0,.bool b0]) w16∧(if b0 then s0 else zeroSec)=strB ((rwT s f3 at_ o c).getD j []):=by
   rw[hWn]at hlk
   rw[hRel3 j (by omega) o (by omega)]
   cases hw3:W3 ((j:Int)*8+(o:Int)) with
   |none=>rw[hw3]at hlk; exact⟨_,_,hlk,rfl⟩
   |some t=>rw[hw3]at hlk; exact⟨_,_,hlk,rfl⟩
  obtain⟨s0,b0,hl0,hv0⟩:=hlks
  obtain⟨hfil,hsec⟩:=good_read hM3 hK2' hat' hsc (off:=o) (by omega) (hgd3 o (by omega)) hfew
  refine⟨s0,b0,w16,by rw[hky]; exact hl0,Join.intro fun J3 hJ3=>?_⟩
  have q2:∀{h:Kd} {w':World} {X:List A},Ow h [] w w' X→blk k2 P 40∈X→∀i v,(pC s sr c q u (jO jb rj) (jO jb rk))[i]?=some v→w'.cell? ⟨k2,i,none⟩=some v:=fun h' hm i v hv=>h'.ld hm (P12 i v hv)
  have fin:∀(w':World) (s1:ByteArray),s1=strB ((rwT s f3 at_ o c).getD j [])→Ow (star (seK s d3 bu) (drK q a3)) [] w w' [blk rj (rgC q 3 0 (0+1+recs3.length)) 128,mapP k65 ew clW,blk k2 P 40,geoA k1 gc gk gr]→J3 [.string s1] w':=by
   intro w' s1 hs1 H17
   refine hJ3 _ _ ⟨_,rfl,_,_,_,_,_,_,_,_,_,⟨q2 H17 (by repeat constructor) 0 _ rfl,q2 H17 (by repeat constructor) 1 _ rfl,q2 H17 (by repeat constructor) 2 _ rfl,q2 H17 (by repeat constructor) 3 _ rfl,q2 H17 (by repeat constructor) 4 _ rfl⟩,?_⟩
   have hrd:=set16_spec (se_w H17.fst) (by omega) (hM3.few.mono (by omega)) at_ o j
   rw[hsec j (by omega),hl3,hb2]at hrd
   refine hrd.mono fun e w18 ⟨he18,hx18⟩=>⟨_,_,he18,no rfl (no (by rw[hs1,beq_self_eq_true]; rfl) ?_)⟩
   have H18:=H17.quiet hx18
   refine⟨_,_,_,_,_,_,_,_,_,⟨q2 H18 (by repeat constructor) 0 _ rfl,q2 H18 (by repeat constructor) 1 _ rfl,q2 H18 (by repeat constructor) 2 _ rfl,q2 H18 (by repeat constructor) 3 _ rfl,q2 H18 (by repeat constructor) 4 _ rfl⟩,?_⟩
   have hfl:=filled16_spec (se_w H18.fst) (by omega) (hM3.few.mono (by omega)) at_ o
   rw[hfil,hl3,hb2]at hfl
   refine hfl.mono fun e w19 ⟨v,he19,g3,c3,g4,c4,hv,hT19⟩=>?_
   subst hv
   have H19:=Ow.new H18 hT19
   refine⟨_,_,_,_,_,_,_,he19,no rfl ?_⟩
   have hst:=T.strs H19.under (g:=g3) (L:=rwT s f3 at_ o c) (n:=(rwT s f3 at_ o c).length) (cap:=c3) (by repeat constructor)
   have hgg:=hgd3 o (by omega)
   have hSh:Short (rwT s f3 at_ o c):=fun x hx=>by
    obtain⟨k,hk,rfl⟩:=List.getElem_of_mem hx
    have:=hgg.all k hk
    rw[List.getD_eq_getElem?_getD,List.getElem?_eq_getElem hk]at this
    have this:((rwT s f3 at_ o c)[k]).length=64:=this
    omega
   refine(goodR_spec hSh (by rw[rwT_len]; omega) (by rw[rwT_len]; omega) hst.2.2 hst.1).mono fun e w20 ⟨he20,hx20⟩=>⟨_,he20,?_⟩
   try dsimp only
   rw[hgg.goodF]
   refine no rfl ⟨⟨o+1,by rw[wrap64 _ (by omega) (by omega)]; rfl,by omega,?_⟩,?_⟩
   ·exact Ow.leave (Z:=[rowP 9 1 g3 (rwT s f3 at_ o c).length c3 (txts (rwT s f3 at_ o c)),rowP 3 1 g4 (misL (lostK s bu K at_) c).length c4 (intsI (misL (lostK s bu K at_) c))]) ((H19.quiet hx20).perm (by exact List.perm_append_comm))
   ·show(gk-IntKind.i64.wrap ((o:Int)+1)).toNat<(gk-(o:Int)).toNat
    rw[wrap64 _ (by omega) (by omega)]; omega
  refine⟨fun hb0=>?_,fun hb0=>?_⟩
  ·have hb0:b0=false:=by simpa using hb0
   rw[hb0]at hv0
   refine(full17_spec _ (by decide) _).mono fun e w17 ⟨he17,hx17⟩=>⟨_,he17,fin w17 _ ?_ (H16.quiet hx17)⟩
   rw[←hv0]
   show fullB (ByteArray.mk #[])=zeroSec
   decide
  ·have hb0:b0=true:=by simpa using hb0
   rw[hb0]at hv0
   exact fin w16 s0 hv0 H16
 have hKz:∀j,j<c→(fun _:Nat=>0) j≠1:=fun _ _=>Nat.zero_ne_one
 refine⟨beq_t fun hi1'=>?_,beq_f fun hi1'=>go l p1 c1 dv (List.replicate c gr) (fun _=>0) w6 hh hp hr hMd hHd hld hlb (fun _ _=>(show(0:Nat)≠2 by decide)) (by rw[misL_zero hok hat' hsc hKz (fun j hj=>by rw[repl_getD hj]; omega)]; decide) (fun _=>⟨rfl,rfl⟩) H6⟩
 have q2:∀{h:Kd} {w':World} {X:List A},Ow h [] w w' X→blk k2 P 40∈X→∀i v,(pC s sr c q u (jO jb rj) (jO jb rk))[i]?=some v→w'.cell? ⟨k2,i,none⟩=some v:=fun h' hm i v hv=>h'.ld hm (P12 i v hv)
 refine⟨fun w'=>∃(h:Kd) (X:List A),Ow h [] w w' X∧blk k2 P 40∈X∧geoA k1 gc gk gr∈X,⟨_,_,H6.drew,(by repeat constructor),(by repeat constructor)⟩,_,_,_,fun w' ⟨h,X,h',m2,m1⟩=>q2 h' m2 3 _ rfl,_,fun w' ⟨h,X,h',m2,m1⟩=>h'.ld (b:=k1) m1 rfl,by omega,_,hpd,by rw[hx]; omega,by rw[hx]; omega,?_⟩
 rw[hx,Int.toNat_natCast]
 refine se_noneS H6.drew hpd (by omega) fun w7 H7=>?_
 obtain⟨hM1,hH1⟩:=hMd.nil hHd (i:=x) (by omega)
 refine⟨fun w'=>∃(h:Kd) (X:List A),Ow h [] w w' X∧blk k2 P 40∈X∧geoA k1 gc gk gr∈X,⟨_,_,H7.drew,(by repeat constructor),(by repeat constructor)⟩,_,_,_,fun w' ⟨h,X,h',m2,m1⟩=>q2 h' m2 4 _ rfl,_,fun w' ⟨h,X,h',m2,m1⟩=>h'.ld (b:=k1) m1 rfl,by omega,_,hpb,by rw[hy]; omega,by rw[hy]; omega,?_⟩
 rw[hy,hat,Int.toNat_natCast]
 refine se_buS H7.drew hpb (by omega) fun w8 H8=>?_
 refine go m p2 c2 (dv.set x none) ((List.replicate c gr).set y (at_:Int)) (fun j=>if j=x then 1 else 0) w8 hh2 hp2 hr2 (hM1.numbers (List.length_set ..)) hH1 (by rw[List.length_set]; exact hld) (by rw[List.length_set]; exact hlb) (fun j _=>?_) ?_ (fun h0=>by omega) H8
 ·show(if j=x then 1 else 0)≠2
  split<;>decide
 ·refine misL_most (S:=[x,y]) hinj fun r hr hlk=>?_
  simp only[List.mem_cons,List.not_mem_nil,or_false]
  have q1:=hcr r (by omega)
  by_cases e1:(colR s at_ r).toNat=x
  ·exact .inl e1
  ·by_cases e2:(colR s at_ r).toNat=y
   ·exact .inr e2
   ·rw[lostK_no (by show(if _=x then 1 else 0)≠1; rw[if_neg e1]; decide)]at hlk
    ·cases hlk
    ·rw[List.getD_eq_getElem?_getD,List.getElem?_set,if_neg fun e=>e2 e.symm,←List.getD_eq_getElem?_getD,repl_getD (by omega)]
     omega
end Go.Proofs.YtkknkmplmilihaaGreat
end
section
namespace Go.Sh
open Go.ChangeShapes Go.WideShapes Go.ChangeAt Go.RowKit
mutual
def leaves (P:Program):Nat→TypeId→Option (List (TypeId×Nat×Nat))
 |0,_=>none
 |d+1,t=>match P.underlying t with
  |some (.struct fs)=>leavesF P d (P.cellsOf t) fs.toList
  |some (.array n e)=>if n≤12&&n*P.cellsOf e==P.cellsOf t then (leaves P d e).map fun l=>(List.range n).flatMap fun i=>l.map fun x=>(x.1,i*P.cellsOf e+x.2.1,x.2.2) else none
  |some _=>some [(t,0,P.cellsOf t)]
  |none=>none
def leavesF (P:Program):Nat→Nat→List Field→Option (List (TypeId×Nat×Nat))
 |_,_,[]=>some []
 |0,_,_=>none
 |d+1,C,f::fs=>if f.offset+P.cellsOf f.type≤C then match leaves P d f.type,leavesF P d C fs with
  |some a,some b=>some (a.map (fun x=>(x.1,f.offset+x.2.1,x.2.2))++b)
  |_,_=>none else none
end
section
variable {P:Program}{H:Type}{enc:TypeId×Value→H}{w:World}{sp:Nat→Bool}
def LeafAt (enc:TypeId×Value→H) (P:Program) (w:World) (sp:Nat→Bool) (cs:List Value) (x:TypeId×Nat×Nat):Prop:=x.2.1+x.2.2≤cs.length∧∃n y,DataW.trod enc P w 0 sp true n x.1 ((cs.drop x.2.1).take x.2.2)=some y
theorem LeafAt.sub {cs:List Value}{o n:Nat}{x:TypeId×Nat×Nat}(hn:o+n≤cs.length) (h:LeafAt enc P w sp ((cs.drop o).take n) x):LeafAt enc P w sp cs (x.1,o+x.2.1,x.2.2):=by
 obtain⟨h1,m,y,h2⟩:=h
 rw[List.length_take,List.length_drop]at h1
 refine⟨?_,m,y,?_⟩
 ·show o+x.2.1+x.2.2≤_; omega
 rw[List.drop_take,List.drop_drop,List.take_take]at h2
 show DataW.trod enc P w 0 sp true m x.1 ((cs.drop (o+x.2.1)).take x.2.2)=some y
 rwa [show min x.2.2 (n-x.2.1)=x.2.2 by omega]at h2
mutual
theorem leaves_trod:∀(d:Nat) (t:TypeId) (l:List (TypeId×Nat×Nat)) (cs:List Value) (n:Nat) (y:DataW H×List MemPlace),leaves P d t=some l→cs.length=P.cellsOf t→DataW.trod enc P w 0 sp true n t cs=some y→∀x∈l,LeafAt enc P w sp cs x
 |0,_,_,_,_,_,h,_,_=>by cases h
 |d+1,t,l,cs,n,y,h,hl,hd=>by
  unfold leaves at h
  split at h
  ·rename_i fs hu
   obtain⟨xs,m,_,_,_,hlen,hf⟩:=DataW.trod_struct hu hd
   exact leavesF_trod d (P.cellsOf t) fs.toList l cs m h hl fun f hm=>by
    obtain⟨i,hi⟩:=List.mem_iff_getElem?.1 hm
    have h1:=hf i f (by simpa using hi)
    have:i<xs.length:=by rw[hlen]; have:=(List.getElem?_eq_some_iff.1 hi).1; simpa using this
    rw[List.getElem?_eq_getElem this]at h1
    exact⟨_,h1⟩
  ·rename_i k e hu
   split at h
   ·rename_i hc
    simp only[Bool.and_eq_true,decide_eq_true_eq,beq_iff_eq]at hc
    simp only[Option.map_eq_some_iff]at h
    obtain⟨le,he,rfl⟩:=h
    obtain⟨xs,m,_,_,_,hlen,hf⟩:=DataW.trod_array hu hd
    intro x hx
    simp only[List.mem_flatMap,List.mem_range,List.mem_map]at hx
    obtain⟨i,hi,x0,hx0,rfl⟩:=hx
    have h1:=hf i hi
    rw[List.getElem?_eq_getElem (by omega)]at h1
    have hb:i*P.cellsOf e+P.cellsOf e≤cs.length:=by
     rw[hl,←hc.2]
     have:(i+1)*P.cellsOf e≤k*P.cellsOf e:=Nat.mul_le_mul_right _ hi
     rw[Nat.add_mul,Nat.one_mul]at this
     exact this
    exact LeafAt.sub hb (leaves_trod d e le _ m _ he (by rw[List.length_take,List.length_drop]; omega) h1 x0 hx0)
   ·cases h
  ·rename_i hu1 hu2 hu3
   cases h
   intro x hx
   obtain rfl:=List.mem_singleton.1 hx
   refine⟨by simp[hl],n,y,?_⟩
   rw[List.drop_zero,←hl,List.take_length]
   exact hd
  ·cases h
theorem leavesF_trod:∀(d C:Nat) (fs:List Field) (l:List (TypeId×Nat×Nat)) (cs:List Value) (n:Nat),leavesF P d C fs=some l→cs.length=C→(∀f∈fs,∃y,DataW.trod enc P w 0 sp true n f.type ((cs.drop f.offset).take (P.cellsOf f.type))=some y)→∀x∈l,LeafAt enc P w sp cs x
 |_,_,[],l,_,_,h,_,_=>by
  cases l with
  |nil=>intro x hx; cases hx
  |cons a l=>unfold leavesF at h; cases h
 |0,_,_::_,_,_,_,h,_,_=>by cases h
 |d+1,C,f::fs,l,cs,n,h,hl,hf=>by
  unfold leavesF at h
  split at h
  ·rename_i hc
   split at h
   ·rename_i a b ha hb
    cases h
    intro x hx
    rcases List.mem_append.1 hx with hx|hx
    ·obtain⟨x0,hx0,rfl⟩:=List.mem_map.1 hx
     obtain⟨y,hy⟩:=hf f List.mem_cons_self
     exact LeafAt.sub (by omega) (leaves_trod d f.type a _ n y ha (by rw[List.length_take,List.length_drop]; omega) hy x0 hx0)
    ·exact leavesF_trod d C fs b cs n hb hl (fun g hg=>hf g (List.mem_cons_of_mem _ hg)) x hx
   ·cases h
  ·cases h
end
theorem leaf_one {cs:List Value}{t:TypeId}{i:Nat}(h:LeafAt enc P w sp cs (t,i,1)):∃v n y,cs[i]?=some v∧DataW.trod enc P w 0 sp true n t [v]=some y:=by
 obtain⟨h1,n,y,h2⟩:=h
 have hi:i<cs.length:=by simp only at h1; omega
 refine⟨cs[i],n,y,List.getElem?_eq_getElem hi,?_⟩
 have:(cs.drop i).take 1=[cs[i]]:=by
  rw[List.drop_eq_getElem_cons hi]; rfl
 rwa [this]at h2
theorem leaf_int {cs:List Value}{t:TypeId}{i:Nat}{k:IntKind}(ht:P.underlying t=some (.int k)) (h:LeafAt enc P w sp cs (t,i,1)):∃n:Int,cs[i]?=some (.int k n)∧(Lit.int k n).wf=true:=by
 obtain⟨v,n,y,h1,h2⟩:=leaf_one h
 obtain⟨m,h3,_,h4⟩:=DataW.trod_int ht h2
 obtain rfl:v=.int k m:=by simpa using h3
 exact⟨m,h1,h4⟩
theorem leaf_str {cs:List Value}{t:TypeId}{i:Nat}(ht:P.underlying t=some .string) (h:LeafAt enc P w sp cs (t,i,1)):∃s:ByteArray,cs[i]?=some (.string s)∧s.size≤maxLen:=by
 obtain⟨v,n,y,h1,h2⟩:=leaf_one h
 obtain⟨m,h3,_,h4⟩:=DataW.trod_string ht h2
 obtain rfl:v=.string m:=by simpa using h3
 exact⟨m,h1,h4⟩
theorem cells_get {w:World}{a:Addr}{n:Nat}{cs:List Value}(h:w.cells? 0 a n=some cs):cs.length=n∧∀k v,cs[k]?=some v→w.cell? (a.add k)=some v:=by
 unfold World.cells? at h
 split at h
 ·have hl:cs.length=n:=by simpa using mapM_some_length h
  refine⟨hl,fun k v hv=>?_⟩
  have hk:k<n:=by have:=(List.getElem?_eq_some_iff.1 hv).1; omega
  have h1:=mapM_some_get h k
  rw[hv]at h1
  simpa[hk] using h1
 ·cases h
theorem open_rows {t e:TypeId}{v:Value}{d:DataW H}{ps:List MemPlace}{r:Reach}{b0:Nat}{l:List (TypeId×Nat×Nat)}{dep C:Nat}(ht:P.underlying t=some (.slice e)) (hl:leaves P dep e=some l) (hC:P.cellsOf e=C) (hval:Value.okWide P w r b0 t v) (hd:DataW.Trod enc P w 0 (fun _=>true) true t v d ps):
  ∃(p:Option Addr) (len c:Nat),v=.slice p len c∧(len≠0→∃a,p=some a)∧∀a,p=some a→∀j,j<len→∃cs:List Value,cs.length=C∧(∀k u,cs[k]?=some u→w.cell? ((a.add (j*C)).add k)=some u)∧∀x∈l,LeafAt enc P w (fun _=>true) cs x:=by
 subst hC
 obtain⟨a0,len,cap,rfl⟩:=okWide_slice ht hval
 obtain⟨fuel,hf⟩:=hd
 rcases DataW.trod_slice ht hf with⟨h0,_⟩|⟨a,len',cap',elems,rest,n,_,h0,_,hb,hle,hm,hlen,hel,_⟩
 ·have:a0=none∧len=0∧cap=0:=by simpa[Value.cells] using h0
  obtain⟨rfl,rfl,rfl⟩:=this
  exact⟨none,0,0,rfl,fun h=>absurd rfl h,(fun a ha=>by cases ha)⟩
 ·have:a0=some a∧len=len'∧cap=cap':=by simpa[Value.cells] using h0
  obtain⟨rfl,rfl,rfl⟩:=this
  refine⟨some a,len,cap,rfl,fun _=>⟨a,rfl⟩,fun a' ha' j hj=>?_⟩
  cases ha'
  have h1:=hel j hj
  rw[List.getElem?_eq_getElem (by omega)]at h1
  simp only[Option.bind_eq_some_iff]at h1
  obtain⟨cs,hcs,ht2⟩:=h1
  obtain⟨h2,h3⟩:=cells_get hcs
  exact⟨cs,h2,h3,leaves_trod dep e l cs n _ hl h2 ht2⟩
theorem list_choice {α:Type}{Q:Nat→α→Prop}:∀(n:Nat),(∀j,j<n→∃x,Q j x)→∃l:List α,l.length=n∧∀j x,l[j]?=some x→Q j x
 |0,_=>⟨[],rfl,fun j x h=>by simp at h⟩
 |n+1,h=>by
  obtain⟨l,hl,hq⟩:=list_choice n fun j hj=>h j (by omega)
  obtain⟨x,hx⟩:=h n (by omega)
  refine⟨l++[x],by simp[hl],fun j y hy=>?_⟩
  rcases Nat.lt_or_ge j l.length with hj|hj
  ·rw[List.getElem?_append_left hj]at hy; exact hq j y hy
  ·rw[List.getElem?_append_right hj]at hy
   have:j=n:=by have:=(List.getElem?_eq_some_iff.1 hy).1; simp at this; omega
   subst this
   rw[hl,Nat.sub_self]at hy
   obtain rfl:x=y:=by simpa using hy
   exact hx
end
end Go.Sh
end
section
namespace Go.Proofs.YtkknkmplmilihaaGreat
open Go.ChangeShapes Go.WideShapes Go.ChangeAt Go.RowKit Go.Sh
theorem u8_of {a:Int}(h:(Lit.int .u8 a).wf=true):0≤a∧a<256:=by
 simp[Lit.wf,IntKind.min,IntKind.max,IntKind.bits,IntKind.signed]at h
 omega
theorem rng64_of {a:Int}(h:(Lit.int .i64 a).wf=true):Rng64 a:=by
 simp[Lit.wf,IntKind.min,IntKind.max,IntKind.bits,IntKind.signed]at h
 unfold Rng64
 omega
def ChgAt (w:World) (p:Option Addr) (l:List RP):Prop:=partsAt w p l∧∀x∈l,RngC x
theorem chg_of {w:World}{p:Option Addr}{len:Nat}(hp:len≠0→∃a,p=some a) (key:∀j,j<len→∃x:RP,RngC x∧∀a,p=some a→∀(m:Nat) (v:Value),(rpC x)[m]?=some v→w.cell? ((a.add (j*3)).add m)=some v):∃l:List RP,l.length=len∧ChgAt w p l:=by
 obtain⟨l,hll,hq⟩:=list_choice len key
 refine⟨l,hll,⟨fun hn=>hp fun h0=>hn (List.eq_nil_of_length_eq_zero (by omega)),fun a ha j x hx m v hv=>(hq j x hx).2 a ha m v hv⟩,fun x hx=>?_⟩
 obtain⟨j,hj⟩:=List.mem_iff_getElem?.1 hx
 exact(hq j x hj).1
theorem open_changes {H:Type}{enc:TypeId×Value→H}{w:World}{v:Value}{d:DataW H}{ps:List MemPlace}{r:Reach}{b0:Nat}(hval:Value.okWide Tp w r b0 22 v) (hd:DataW.Trod enc Tp w 0 (fun _=>true) true 22 v d ps):
  ∃(p:Option Addr) (c:Nat) (l:List RP),v=.slice p l.length c∧ChgAt w p l:=by
 have hlv:leaves Tp 20 47=some [(3,0,1),(3,1,1),(9,2,1)]:=by kernel_rfl
 obtain⟨p,len,c,rfl,hp,hat⟩:=open_rows (e:=47) (by kernel_rfl) hlv (C:=3) (by kernel_rfl) hval hd
 obtain⟨l,hll,hC⟩:=chg_of (w:=w) (p:=p) (len:=len) hp fun j hj=>by
  cases hpa:p with
  |none=>exact⟨⟨0,0,[]⟩,⟨⟨by show(-9223372036854775808:Int)≤0; omega,by show(0:Int)≤9223372036854775807; omega⟩,⟨by show(-9223372036854775808:Int)≤0; omega,by show(0:Int)≤9223372036854775807; omega⟩⟩,fun a ha=>by cases ha⟩
  |some a=>
   obtain⟨cs,hl,hc,hx⟩:=hat a hpa j hj
   obtain⟨k,e0,w0⟩:=leaf_int (k:=.i64) (by kernel_rfl) (hx (3,0,1) (by simp))
   obtain⟨o,e1,w1⟩:=leaf_int (k:=.i64) (by kernel_rfl) (hx (3,1,1) (by simp))
   obtain⟨s,e2,_⟩:=leaf_str (by kernel_rfl) (hx (9,2,1) (by simp))
   refine⟨⟨k,o,s.data.toList⟩,⟨rng64_of w0,rng64_of w1⟩,fun a' ha'=>?_⟩
   cases ha'
   refine fun m v hv=>hc m v ?_
   have hm:m<3:=(Array.getElem?_eq_some_iff.1 hv).1
   match m,hm with
   |0,_=>exact e0.trans hv
   |1,_=>exact e1.trans hv
   |2,_=>
    refine Eq.trans ?_ hv
    rw[e2]
    show some (Value.string s)=some (Value.string (strB s.data.toList))
    rw[strB_list]
 exact⟨p,c,l,by rw[hll],hC⟩
end Go.Proofs.YtkknkmplmilihaaGreat
end
