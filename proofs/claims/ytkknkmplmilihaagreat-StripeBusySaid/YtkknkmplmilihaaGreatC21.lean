import Derived.Test.YtkknkmplmilihaaGreatC15
import Derived.Test.YtkknkmplmilihaaGreatC19
import Derived.Test.YtkknkmplmilihaaGreatC20
set_option linter.unusedSimpArgs false
set_option linter.unusedVariables false
set_option maxHeartbeats 2000000
set_option maxRecDepth 20000
section
namespace Go.Proofs.YtkknkmplmilihaaGreat
open Go.Sh Go.RowKit
theorem busy17_law {a b:Int}(ha:0≤a∧a≤255) (hb:0≤b∧b≤255){l m:List RP}{p1 p2:Option Addr}{c1 c2:Nat}{w:World}(hp:partsAt w p1 l) (hr:∀x∈l,RngC x) (hp2:partsAt w p2 m) (hr2:∀x∈m,RngC x):
  Ret Tryz.prog 6 #[.int .u8 a,.int .u8 b,.slice p1 l.length c1,.slice p2 m.length c2] w (.bool true):=by
 refine ret_of (revetmentlaw17_StripeBusy_calls ?_)
 unfold revetmentlaw17_StripeBusy
 refine(weighs17_spec hp).mono fun e w1 ⟨he1,hx1⟩=>⟨_,he1,fun hh=>shown17_end hx1,fun hh=>?_⟩
 refine(weighs17_spec (hp2.ext hx1)).mono fun e w2 ⟨he2,hx2⟩=>⟨_,he2,fun hh2=>shown17_end (hx1.trans hx2),fun hh2=>?_⟩
 refine(shown17_spec w2).mono fun e w3 ⟨he3,hx3⟩=>⟨_,he3,no rfl ?_⟩
 obtain⟨hl30,hl100⟩:=weighsR_short hh
 obtain⟨hm30,hm100⟩:=weighsR_short hh2
 refine setup17 (d:=2) ha hb (by omega) true ((hx1.trans hx2).trans hx3) fun gc gk gr N s sr ds rs q u rj rk aj k1 k2 w4 e1 e2 e3 hN hrk hB H4=>?_
 obtain⟨ec,ek,er⟩:=hB.g
 have gb:(4≤gc∧gc≤7)∧(1≤gk∧gk≤3)∧gr=3:=by omega
 obtain⟨c,hc⟩:∃c:Nat,gc=(c:Int):=⟨gc.toNat,by omega⟩
 obtain⟨hM,hH,hl⟩:=hB.md (by unfold OkG; omega) hN
 have hcn:gc.toNat=c:=by omega
 rw[hcn]at hM hl H4
 generalize hP:pC s sr c q u (jO true rj) (jO true rk)=P at H4
 have P12:∀(i:Nat) (v:Value),(pC s sr c q u (some ⟨rj,0,none⟩) (some ⟨rk,0,none⟩))[i]?=some v→P[i]?=some v:=fun i v h=>by rw[←hP]; exact h
 have H4:Ow (star (seK s ds (List.replicate c gr)) (drK q aj)) [] w w4 (blk rj (rgC q 3 0 1) 128::[blk k2 P 40,geoA k1 gc gk gr]):=by
  refine Ow.leave (Z:=[blk rk (krC u 0 1) 167]) (H4.fst.perm ?_)
  classical
  refine List.perm_iff_count.2 fun x=>?_
  simp only[geoA,List.count_append,List.count_cons,List.count_nil,Nat.zero_add,Nat.add_zero]
  ac_rfl
 have hlb:(List.replicate c gr).length=c:=List.length_replicate
 have hok:=hM.ok
 have hat:0≤(0:Int)∧(0:Int)<s.r:=by omega
 have hsc:s.c=(c:Int):=by omega
 have q1:∀{h:Kd} {w':World} {X:List A},Ow h [] w w' X→geoA k1 gc gk gr∈X→∀i v,(#[Value.int .i64 gc,.int .i64 gk,.int .i64 gr]:Array Value)[i]?=some v→w'.cell? ⟨k1,i,none⟩=some v:=fun h' hm i v hv=>h'.ld hm hv
 have q2:∀{h:Kd} {w':World} {X:List A},Ow h [] w w' X→blk k2 P 40∈X→∀i v,(pC s sr c q u (some ⟨rj,0,none⟩) (some ⟨rk,0,none⟩))[i]?=some v→w'.cell? ⟨k2,i,none⟩=some v:=fun h' hm i v hv=>h'.ld hm (P12 i v hv)
 refine⟨_,_,_,⟨q1 H4 (by repeat constructor) 0 _ rfl,q1 H4 (by repeat constructor) 1 _ rfl,q1 H4 (by repeat constructor) 2 _ rfl⟩,?_⟩
 refine(distinct17_spec (c:=gc) (k:=gk) (r:=gr) (by omega) (by omega) (hp.ext H4.ext) hr (by omega) (fun x hx=>by have:=hl100 x hx; omega)).mono fun e w5 ⟨g,cap,he5,hT5⟩=>⟨_,_,_,he5,?_⟩
 have H5:=Ow.new H4 hT5
 refine⟨_,_,_,⟨q1 H5 (by repeat constructor) 0 _ rfl,q1 H5 (by repeat constructor) 1 _ rfl,q1 H5 (by repeat constructor) 2 _ rfl⟩,?_⟩
 refine(distinct17_spec (c:=gc) (k:=gk) (r:=gr) (by omega) (by omega) (hp2.ext H5.ext) hr2 (by omega) (fun x hx=>by have:=hm100 x hx; omega)).mono fun e w6 ⟨g2,cap2,he6,hT6⟩=>⟨_,_,_,he6,?_⟩
 have H6:=Ow.new H5 hT6
 have dl:∀l:List RP,l.length≤30→(distR gc gk l).length≤1000:=fun l hl=>by
  have:=dstF_len (l.map (normR gc gk))
  rw[List.length_map]at this
  unfold distR; omega
 have hD:=distR_ok (c:=gc) (k:=gk) (by omega) (by omega) (l:=l)
 have hE:=distR_ok (c:=gc) (k:=gk) (by omega) (by omega) (l:=m)
 have hDl:=dl l hl30
 have hEl:=dl m hm30
 clear he5 he6 hT5 hT6
 generalize distR gc gk l=D at hD hDl H6
 generalize distR gc gk m=E at hE hEl H6
 have H6:Ow (star (seK s ds (List.replicate c gr)) (drK q aj)) [] w w6 (blk rj (rgC q 3 0 1) 128::[rowP 47 3 g D.length cap (rpL D),rowP 47 3 g2 E.length cap2 (rpL E),blk k2 P 40,geoA k1 gc gk gr]):=by
  refine H6.perm ?_
  classical
  refine List.perm_iff_count.2 fun x=>?_
  simp only[geoA,List.count_append,List.count_cons,List.count_nil,Nat.zero_add,Nat.add_zero]
  ac_rfl
 have hX:∀{X:List A},X=[rowP 47 3 g D.length cap (rpL D),rowP 47 3 g2 E.length cap2 (rpL E),blk k2 P 40,geoA k1 gc gk gr]→(∀w',T [] w w' X→partsAt w' (ptr g) D∧partsAt w' (ptr g2) E)∧blk k2 P 40∈X∧geoA k1 gc gk gr∈X:=fun {X} hX=>by
  subst hX
  exact⟨fun w' h'=>⟨T.partsT h' (t:=47) (n:=D.length) (cap:=cap) (by repeat constructor),T.partsT h' (t:=47) (n:=E.length) (cap:=cap2) (by repeat constructor)⟩,(by repeat constructor),(by repeat constructor)⟩
 generalize hXe:[rowP 47 3 g D.length cap (rpL D),rowP 47 3 g2 E.length cap2 (rpL E),blk k2 P 40,geoA k1 gc gk gr]=X at H6
 obtain⟨hDE,m2,m1⟩:=hX hXe.symm
 clear hX hXe H4 H5
 have m2':=fun(y:A)=>List.mem_cons_of_mem y m2
 have m1':=fun(y:A)=>List.mem_cons_of_mem y m1
 have hmis:=misL_zero (bu:=List.replicate c gr) (K:=fun _=>0) hok hat hsc (fun i _=>Nat.zero_ne_one) (fun i hi=>by rw[repl_getD hi]; omega)
 have hbB:∀i,i<c→(0:Int)<(List.replicate c gr).getD i 0:=fun i hi=>by rw[repl_getD hi]; omega
 have mk:∀(Z:List RP) (d:List Od) (f:Nat→Nat→ByteArray),((∀x∈Z,(0≤x.col∧x.col<gc-2)∧(0≤x.off∧x.off<gk)∧x.data.length=64)∧(Z.map fun x=>(x.off,x.col)).Nodup)→MdS s d (List.replicate c gr) N 0 (fun _=>0) f→MdH d N (fun _=>0) f→(∀off,0≤off∧off<s.k→GoodL (rwT s f 0 off c) 64)→GoodA s d (List.replicate c gr) N 0 (fun _=>0) f 0 Z c:=fun Z d f hZ h1 h2 h3=>
  ⟨h1,h2,fun i _=>(show(0:Nat)≠2 by decide),hat,hsc,h3,by rw[hmis]; decide,fun x hx=>by have:=hZ.1 x hx; omega,hZ.2⟩
 have z0:∀off,0≤off∧off<s.k→GoodL (rwT s (fun _ _=>zeroSec) 0 off c) 64:=fun off ho=>zero_row s 0 off (by omega) (by omega)
 have ne0:∀{Z:List RP} {d f},GoodA s d (List.replicate c gr) N 0 (fun _=>0) f 0 Z c→Z≠[]→goodP s d (List.replicate c gr) (fun _=>0) f 0 Z c≠[]:=fun {Z d f} hA hZ e=>by
  obtain⟨x,Z',rfl⟩:=List.exists_cons_of_ne_nil hZ
  have:=goodP_own hA (fun _ _=>rfl) (x:=x) List.mem_cons_self
  rw[e]at this; cases this
 have A0:∀{R:Value→World→Prop},(∀w',Ext w w'→R (.bool true) w')→Calls Tryz.prog 16 #[.agg (rwC s c c),.pointer (some ⟨rj,0,none⟩),.int .i64 0,.slice none 0 0] w6 fun e w7=>∃n:Int,e=.returned (.int .i64 n)∧((n==0)=true→∃p':Option Addr,w7.cell? ⟨k2,12,none⟩=some (.pointer p')∧Calls Tryz.prog 23 #[.pointer p'] w7 fun e w8=>∃n':Int,e=.returned (.int .i64 n')∧R (.bool (n'==3)) w8)∧((n==0)=false→R (.bool false) w7):=by
  intro R hR
  refine apply_u (recs:=[]) H6 (mk [] ds _ ⟨by simp,by simp⟩ hM hH z0) hl hlb hB.ring (by decide) rfl (by simp) (fun w' _=>partsAt.nil w') fun d' a' recs' w7 h1 h2 h3 h4 h5 H7=>⟨_,rfl,yes rfl ⟨_,q2 H7 (m2' _) 12 _ rfl,?_⟩⟩
  have hg0:goodP s ds (List.replicate c gr) (fun _=>0) (fun _ _=>zeroSec) 0 [] c=[]:=by
   unfold goodP
   have:offsC s []=[]:=by unfold offsC; rw[List.filter_eq_nil_iff]; simp
   rw[this]; rfl
  rw[if_pos hg0]at h4
  subst h4
  refine Ow.useSnd H7 fun Z hZ hbk=>rleft_u (recs:=[]) (Ow.dr hZ) List.mem_cons_self h5 fun w8 h8=>⟨_,rfl,?_⟩
  exact hR w8 (hbk _ _ _ (Dr.ow h8)).ext
 refine⟨beq_t fun _=>?_,beq_f fun hD0=>⟨beq_t fun _=>?_,beq_f fun hE0=>?_⟩⟩
 ·exact⟨_,_,_,_,_,_,_,_,_,⟨q2 H6 (m2' _) 0 _ rfl,q2 H6 (m2' _) 1 _ rfl,q2 H6 (m2' _) 2 _ rfl,q2 H6 (m2' _) 3 _ rfl,q2 H6 (m2' _) 4 _ rfl⟩,_,q2 H6 (m2' _) 12 _ rfl,A0 (R:=fun v w'=>v=Value.bool true∧Ext w w') fun w' hx=>⟨rfl,hx⟩⟩
 ·exact⟨_,_,_,_,_,_,_,_,_,⟨q2 H6 (m2' _) 0 _ rfl,q2 H6 (m2' _) 1 _ rfl,q2 H6 (m2' _) 2 _ rfl,q2 H6 (m2' _) 3 _ rfl,q2 H6 (m2' _) 4 _ rfl⟩,_,q2 H6 (m2' _) 12 _ rfl,A0 (R:=fun v w'=>v=Value.bool true∧Ext w w') fun w' hx=>⟨rfl,hx⟩⟩
 have hDn:D≠[]:=fun e=>hD0 (by rw[e]; rfl)
 have hEn:E≠[]:=fun e=>hE0 (by rw[e]; rfl)
 clear A0
 refine⟨fun vs w'=>∃(i:Nat) (d:List Od) (f:Nat→Nat→ByteArray) (a':AD) (recs:List (Int×List RP)),vs=[.int .i64 (i:Int)]∧i≤3∧MdS s d (List.replicate c gr) N 0 (fun _=>0) f∧MdH d N (fun _=>0) f∧d.length=c∧(∀off,0≤off∧off<s.k→GoodL (rwT s f 0 off c) 64)∧recs.length=i∧RAt a' 127 3 0 recs∧Ow (star (seK s d (List.replicate c gr)) (drK q a')) [] w w' (blk rj (rgC q 3 0 (0+1+recs.length)) 128::X),fun vs _=>match vs with|[.int _ i]=>(3-i).toNat|_=>0,⟨0,ds,_,aj,[],rfl,by omega,hM,hH,hl,z0,rfl,hB.ring,H6⟩,?_⟩
 clear H6
 rintro vs w7 ⟨i,d,f,a',recs,rfl,hi,hMd,hHd,hld,hgd,hrl,hR,H7⟩
 refine⟨_,rfl,dec_t fun hlt=>?_,dec_f fun hge=>?_⟩
 ·refine⟨_,_,_,_,_,_,_,_,_,⟨q2 H7 (m2' _) 0 _ rfl,q2 H7 (m2' _) 1 _ rfl,q2 H7 (m2' _) 2 _ rfl,q2 H7 (m2' _) 3 _ rfl,q2 H7 (m2' _) 4 _ rfl⟩,_,q2 H7 (m2' _) 12 _ rfl,?_⟩
  have hA:=mk D d f hD hMd hHd hgd
  refine apply_u H7 hA hld hlb hR (by omega) rfl hDl (fun w' h'=>(hDE w' h').1) fun d' a2 recs' w8 h1 h2 h3 h4 h5 H8=>⟨_,rfl,no rfl ?_⟩
  rw[if_neg (ne0 hA hDn)]at h4
  refine⟨⟨i+1,d',_,a2,recs',by rw[wrap64 _ (by omega) (by omega)]; rfl,by omega,h1,h2,h3,fun off ho=>(hA.row ho).2,by rw[h4,List.length_append,hrl]; rfl,h5,H8⟩,?_⟩
  show(3-IntKind.i64.wrap ((i:Int)+1)).toNat<(3-(i:Int)).toNat
  rw[wrap64 _ (by omega) (by omega)]; omega
 obtain rfl:i=3:=by omega
 have hA:=mk E d f hE hMd hHd hgd
 have hne:=ne0 hA hEn
 obtain⟨x,hx0⟩:∃x,E[0]?=some x:=by
  cases E with
  |nil=>exact absurd rfl hEn
  |cons x E'=>exact⟨x,rfl⟩
 have hxm:=List.mem_of_getElem? hx0
 have hxb:=hE.1 x hxm
 have hE1:(0:Int)<(E.length:Int):=by have:=(List.getElem?_eq_some_iff.1 hx0).1; omega
 have sec:∀(h:Kd) (w':World) (Y:List A),Ow h [] w w' (Y++X)→∃ad,ptr g2=some ad∧w'.cell? ad=some (.int .i64 x.col)∧w'.cell? (ad.add 1)=some (.int .i64 x.off)∧w'.cell? (ad.add 2)=some (.string (strB x.data)):=fun h w' Y h'=>by
  have hq:=(hDE w' (T.leave (h'.perm List.perm_append_comm).under)).2
  obtain⟨ad,had⟩:=hq.1 hEn
  have hg:=hq.2 ad had 0 x hx0
  have a0:∀k,(ad.add (0*3)).add k=ad.add k:=fun k=>by simp[Addr.add]
  refine⟨ad,had,?_,?_,?_⟩
  ·have:=hg 0 (.int .i64 x.col) rfl; rw[a0]at this; simpa[Addr.add] using this
  ·have:=hg 1 _ rfl; rwa [a0]at this
  ·have:=hg 2 _ rfl; rwa [a0]at this
 obtain⟨ad,had,-⟩:=sec _ _ [_] H7
 have sec1:∀(h:Kd) (w':World) (Y:List A),Ow h [] w w' (Y++X)→w'.cell? ad=some (.int .i64 x.col)∧w'.cell? (ad.add 1)=some (.int .i64 x.off)∧w'.cell? (ad.add 2)=some (.string (strB x.data)):=fun h w' Y h'=>by
  obtain⟨ad',had',hh⟩:=sec h w' Y h'
  rw[had]at had'; cases had'; exact hh
 clear sec
 have D0:∀{w':World} {h:Kd} {Y:List A},Ow h [] w w' (Y++X)→(fun w'=>∃(h:Kd) (Y:List A),Ow h [] w w' (Y++X)) w':=fun h'=>⟨_,_,h'⟩
 have q2':∀{h:Kd} {w':World} {Y:List A},Ow h [] w w' (Y++X)→∀i v,(pC s sr c q u (some ⟨rj,0,none⟩) (some ⟨rk,0,none⟩))[i]?=some v→w'.cell? ⟨k2,i,none⟩=some v:=fun h' i v hv=>q2 h' (List.mem_append_right _ m2) i v hv
 have q1':∀{h:Kd} {w':World} {Y:List A},Ow h [] w w' (Y++X)→w'.cell? ⟨k1,0,none⟩=some (.int .i64 gc):=fun h'=>q1 h' (List.mem_append_right _ m1) 0 _ rfl
 have hrd:=good_all hMd hat hsc hbB (off:=x.off) (by omega)
 have hrwl:(rwT s f 0 x.off c).length=c:=rwT_len ..
 have H7:Ow (star (seK s d (List.replicate c gr)) (drK q a')) [] w w7 ([blk rj (rgC q 3 0 (0+1+recs.length)) 128]++X):=H7
 refine⟨fun w'=>∃(h:Kd) (Y:List A),Ow h [] w w' (Y++X),D0 H7.drew,_,_,_,_,_,_,_,_,_,fun w' ⟨h,Y,h'⟩=>⟨q2' h' 0 _ rfl,q2' h' 1 _ rfl,q2' h' 2 _ rfl,q2' h' 3 _ rfl,q2' h' 4 _ rfl⟩,ad,had,by omega,hE1,x.off,fun w' ⟨h,Y,h'⟩=>(sec1 _ _ _ h').2.1,?_⟩
 have hr1:=read16_spec (se_w H7.drew.fst) (by omega) (hMd.few.mono (by omega)) 0 x.off
 rw[hld,hlb,hrd]at hr1
 refine hr1.mono fun e w8 ⟨v,he8,g3,c3,g4,c4,hv,hT8⟩=>?_
 subst hv
 have H8:=Ow.new H7.drew hT8
 refine⟨_,_,_,_,_,_,_,he8,D0 (Y:=[_,_,_]) H8,?_⟩
 refine⟨_,_,_,_,_,_,_,_,_,⟨q2' (Y:=[_,_,_]) H8 0 _ rfl,q2' (Y:=[_,_,_]) H8 1 _ rfl,q2' (Y:=[_,_,_]) H8 2 _ rfl,q2' (Y:=[_,_,_]) H8 3 _ rfl,q2' (Y:=[_,_,_]) H8 4 _ rfl⟩,_,q2' (Y:=[_,_,_]) H8 12 _ rfl,?_⟩
 have H8:Ow (star (seK s d (List.replicate c gr)) (drK q a')) [] w w8 (blk rj (rgC q 3 0 (0+1+recs.length)) 128::(rowP 9 1 g3 (rwT s f 0 x.off c).length c3 (txts (rwT s f 0 x.off c))::X)):=by
  refine Ow.leave (Z:=[rowP 3 1 g4 0 c4 (intsI [])]) (H8.perm ?_)
  classical
  refine List.perm_iff_count.2 fun x=>?_
  simp only[geoA,List.count_append,List.count_cons,List.count_nil,Nat.zero_add,Nat.add_zero,List.length_nil]
  ac_rfl
 refine apply_busy_u H8 hA hld hlb hR hrl rfl hEl (fun w' h'=>(hDE w' h'.drop).2) hne fun w9 H9=>⟨_,rfl,?_⟩
 refine⟨fun w'=>∃(h:Kd) (Y:List A),Ow h [] w w' (Y++X),D0 (Y:=[_,_]) H9.drew,_,_,_,_,_,_,_,_,_,fun w' ⟨h,Y,h'⟩=>⟨q2' h' 0 _ rfl,q2' h' 1 _ rfl,q2' h' 2 _ rfl,q2' h' 3 _ rfl,q2' h' 4 _ rfl⟩,ad,had,by omega,hE1,x.off,fun w' ⟨h,Y,h'⟩=>(sec1 _ _ _ h').2.1,?_⟩
 have hr2:=read16_spec (se_w H9.drew.fst) (by omega) (hMd.few.mono (by omega)) 0 x.off
 rw[hld,hlb,hrd]at hr2
 refine hr2.mono fun e w10 ⟨v,he10,g5,c5,g6,c6,hv,hT10⟩=>?_
 subst hv
 have H10:=Ow.new H9.drew hT10
 refine⟨_,_,_,_,_,_,_,he10,D0 (Y:=[_,_,_,_]) H10,no rfl (no rfl (no rfl ⟨_,q1' (Y:=[_,_,_,_]) H10,?_⟩))⟩
 rw[hrwl]
 refine⟨bne_t fun hn=>absurd hc.symm hn,bne_f fun _=>⟨_,q1' (Y:=[_,_,_,_]) H10,bne_t fun hn=>absurd hc.symm hn,bne_f fun _=>?_⟩⟩
 have H10:Ow (star (seK s d (List.replicate c gr)) (drK q a')) [] w w10 (blk rj (rgC q 3 0 (0+1+recs.length)) 128::(rowP 9 1 g5 (rwT s f 0 x.off c).length c5 (txts (rwT s f 0 x.off c))::rowP 9 1 g3 (rwT s f 0 x.off c).length c3 (txts (rwT s f 0 x.off c))::X)):=by
  refine Ow.leave (Z:=[rowP 3 1 g6 0 c6 (intsI [])]) (H10.perm ?_)
  classical
  refine List.perm_iff_count.2 fun x=>?_
  simp only[geoA,List.count_append,List.count_cons,List.count_nil,Nat.zero_add,Nat.add_zero,List.length_nil]
  ac_rfl
 refine⟨fun vs w'=>∃i:Nat,vs=[.int .i64 (i:Int)]∧i≤c∧Ow (star (seK s d (List.replicate c gr)) (drK q a')) [] w w' (blk rj (rgC q 3 0 (0+1+recs.length)) 128::(rowP 9 1 g5 (rwT s f 0 x.off c).length c5 (txts (rwT s f 0 x.off c))::rowP 9 1 g3 (rwT s f 0 x.off c).length c3 (txts (rwT s f 0 x.off c))::X)),fun vs _=>match vs with|[.int _ i]=>(gc-i).toNat|_=>0,⟨0,rfl,by omega,H10⟩,?_⟩
 clear H7 H8 H9 H10 hr1 hr2
 rintro vs w11 ⟨i,rfl,hi,H11⟩
 refine⟨_,rfl,_,q1' (Y:=[_,_,_]) H11,dec_t fun hlt=>?_,dec_f fun hge=>?_⟩
 ·have st:∀{w':World},Ow (star (seK s d (List.replicate c gr)) (drK q a')) [] w w' (blk rj (rgC q 3 0 (0+1+recs.length)) 128::(rowP 9 1 g5 (rwT s f 0 x.off c).length c5 (txts (rwT s f 0 x.off c))::rowP 9 1 g3 (rwT s f 0 x.off c).length c3 (txts (rwT s f 0 x.off c))::X))→strsL w' (ptr g5) (rwT s f 0 x.off c)∧strsL w' (ptr g3) (rwT s f 0 x.off c):=fun h'=>⟨(T.strs h'.under (g:=g5) (L:=rwT s f 0 x.off c) (by repeat constructor)).1,(T.strs h'.under (g:=g3) (L:=rwT s f 0 x.off c) (by repeat constructor)).1⟩
  obtain⟨a5,ha5,-⟩:=(st H11).1.get (n:=i) (by omega)
  obtain⟨a3,ha3,-⟩:=(st H11).2.get (n:=i) (by omega)
  have c5':∀{w':World},Ow (star (seK s d (List.replicate c gr)) (drK q a')) [] w w' (blk rj (rgC q 3 0 (0+1+recs.length)) 128::(rowP 9 1 g5 (rwT s f 0 x.off c).length c5 (txts (rwT s f 0 x.off c))::rowP 9 1 g3 (rwT s f 0 x.off c).length c3 (txts (rwT s f 0 x.off c))::X))→w'.cell? (a5.add (i*1))=some (.string (strB ((rwT s f 0 x.off c).getD i [])))∧w'.cell? (a3.add (i*1))=some (.string (strB ((rwT s f 0 x.off c).getD i []))):=fun h'=>by
   obtain⟨b5,hb5,e5⟩:=(st h').1.get (n:=i) (by omega)
   obtain⟨b3,hb3,e3⟩:=(st h').2.get (n:=i) (by omega)
   rw[ha5]at hb5; cases hb5
   rw[ha3]at hb3; cases hb3
   exact⟨e5,e3⟩
  refine⟨_,H11.drew,a3,ha3,by omega,by omega,_,fun w' h'=>by rw[Int.toNat_natCast]; exact(c5' h').2,a5,ha5,by omega,by omega,_,fun w' h'=>by rw[Int.toNat_natCast]; exact(c5' h').1,no (by rw[beq_self_eq_true]; rfl) ⟨⟨i+1,by rw[wrap64 _ (by omega) (by omega)]; rfl,by omega,H11.drew⟩,?_⟩⟩
  show(gc-IntKind.i64.wrap ((i:Int)+1)).toNat<(gc-(i:Int)).toNat
  rw[wrap64 _ (by omega) (by omega)]; omega
 have H11:Ow (star (seK s d (List.replicate c gr)) (drK q a')) [] w w11 (blk rj (rgC q 3 0 (0+1+recs.length)) 128::X):=H11.perm ((List.Perm.swap _ _ _).trans (List.Perm.cons _ (List.Perm.swap _ _ _))) |>.dropX.dropX
 refine⟨_,q2 H11 (m2' _) 12 _ rfl,?_⟩
 refine Ow.useSnd H11 fun Z hZ hbk=>rtrim_u (m:=3) (Ow.dr hZ) hR rfl (by omega) (by omega) (by decide) fun a3 w12 hR3 h12=>⟨_,rfl,no rfl ?_⟩
 have H12:=hbk _ _ (blk rj _ 128::X) (Dr.ow h12)
 clear hbk h12 hZ
 refine⟨_,_,_,_,_,_,_,_,_,⟨q2 H12 (m2' _) 0 _ rfl,q2 H12 (m2' _) 1 _ rfl,q2 H12 (m2' _) 2 _ rfl,q2 H12 (m2' _) 3 _ rfl,q2 H12 (m2' _) 4 _ rfl⟩,_,q2 H12 (m2' _) 12 _ rfl,?_⟩
 have hrd3:(recs.drop (3-0)).length<3:=by rw[List.length_drop]; omega
 refine apply_u H12 hA hld hlb hR3 hrd3 rfl hEl (fun w' h'=>(hDE w' h').2) fun d' a4 recs' w13 h1 h2 h3 h4 h5 H13=>⟨_,rfl,no rfl ?_⟩
 have H13:Ow (star (seK s d' (List.replicate c gr)) (drK q a4)) [] w w13 ([blk rj (rgC q 3 3 (3+1+recs'.length)) 128]++X):=H13
 refine⟨fun w'=>∃(h:Kd) (Y:List A),Ow h [] w w' (Y++X),D0 H13.drew,_,_,_,_,_,_,_,_,_,fun w' ⟨h,Y,h'⟩=>⟨q2' h' 0 _ rfl,q2' h' 1 _ rfl,q2' h' 2 _ rfl,q2' h' 3 _ rfl,q2' h' 4 _ rfl⟩,ad,had,by omega,hE1,x.off,fun w' ⟨h,Y,h'⟩=>(sec1 _ _ _ h').2.1,ad,had,by omega,hE1,x.col,fun w' ⟨h,Y,h'⟩=>(sec1 _ _ _ h').1,?_⟩
 have hrow:=hA.row (off:=x.off) (by omega)
 obtain⟨r,hr'⟩:∃r:Nat,x.col=(r:Int):=⟨x.col.toNat,by omega⟩
 obtain⟨-,hsec⟩:=good_read h1 (fun i _=>(show(0:Nat)≠2 by decide)) hat hsc (off:=x.off) (by omega) hrow.2 (by rw[hmis]; decide)
 have hs:=set16_spec (se_w H13.drew.fst) (by omega) (h1.few.mono (by omega)) 0 x.off x.col
 rw[h3,hlb]at hs
 have e0:sectR s d' (List.replicate c gr) 0 x.off x.col=(strB x.data,0):=by
  rw[hr',hsec r (by omega),hrow.1,rowF_own hE.2 hxm hr' (by rw[rwT_len]; omega)]
 rw[e0]at hs
 refine hs.mono fun e w14 ⟨he14,hx14⟩=>⟨_,_,he14,D0 (H13.drew.quiet hx14),yes rfl ⟨ad,had,by omega,hE1,_,(sec1 _ _ _ (H13.drew.quiet hx14)).2.2,?_,(H13.drew.quiet hx14).ext⟩⟩
 exact congrArg Value.bool (same_str _)
end Go.Proofs.YtkknkmplmilihaaGreat
end
section
namespace Go.Sh
open Go.ChangeShapes Go.WideShapes Go.ChangeAt Go.RowKit
mutual
def leaves (P:Program):Nat→TypeId→Option (List (TypeId×Nat×Nat))
 |0,_=>none
 |d+1,t=>match P.underlying t with
  |some (.struct fs)=>leavesF P d (P.cellsOf t) fs.toList
  |some (.array n e)=>if n≤12&&n*P.cellsOf e==P.cellsOf t then (leaves P d e).map fun l=>(List.range n).flatMap fun i=>l.map fun x=>(x.1,i*P.cellsOf e+x.2.1,x.2.2) else none
  |some _=>some [(t,0,P.cellsOf t)]
  |none=>none
def leavesF (P:Program):Nat→Nat→List Field→Option (List (TypeId×Nat×Nat))
 |_,_,[]=>some []
 |0,_,_=>none
 |d+1,C,f::fs=>if f.offset+P.cellsOf f.type≤C then match leaves P d f.type,leavesF P d C fs with
  |some a,some b=>some (a.map (fun x=>(x.1,f.offset+x.2.1,x.2.2))++b)
  |_,_=>none else none
end
section
variable {P:Program}{H:Type}{enc:TypeId×Value→H}{w:World}{sp:Nat→Bool}
def LeafAt (enc:TypeId×Value→H) (P:Program) (w:World) (sp:Nat→Bool) (cs:List Value) (x:TypeId×Nat×Nat):Prop:=x.2.1+x.2.2≤cs.length∧∃n y,DataW.trod enc P w 0 sp true n x.1 ((cs.drop x.2.1).take x.2.2)=some y
theorem LeafAt.sub {cs:List Value}{o n:Nat}{x:TypeId×Nat×Nat}(hn:o+n≤cs.length) (h:LeafAt enc P w sp ((cs.drop o).take n) x):LeafAt enc P w sp cs (x.1,o+x.2.1,x.2.2):=by
 obtain⟨h1,m,y,h2⟩:=h
 rw[List.length_take,List.length_drop]at h1
 refine⟨?_,m,y,?_⟩
 ·show o+x.2.1+x.2.2≤_; omega
 rw[List.drop_take,List.drop_drop,List.take_take]at h2
 show DataW.trod enc P w 0 sp true m x.1 ((cs.drop (o+x.2.1)).take x.2.2)=some y
 rwa [show min x.2.2 (n-x.2.1)=x.2.2 by omega]at h2
mutual
theorem leaves_trod:∀(d:Nat) (t:TypeId) (l:List (TypeId×Nat×Nat)) (cs:List Value) (n:Nat) (y:DataW H×List MemPlace),leaves P d t=some l→cs.length=P.cellsOf t→DataW.trod enc P w 0 sp true n t cs=some y→∀x∈l,LeafAt enc P w sp cs x
 |0,_,_,_,_,_,h,_,_=>by cases h
 |d+1,t,l,cs,n,y,h,hl,hd=>by
  unfold leaves at h
  split at h
  ·rename_i fs hu
   obtain⟨xs,m,_,_,_,hlen,hf⟩:=DataW.trod_struct hu hd
   exact leavesF_trod d (P.cellsOf t) fs.toList l cs m h hl fun f hm=>by
    obtain⟨i,hi⟩:=List.mem_iff_getElem?.1 hm
    have h1:=hf i f (by simpa using hi)
    have:i<xs.length:=by rw[hlen]; have:=(List.getElem?_eq_some_iff.1 hi).1; simpa using this
    rw[List.getElem?_eq_getElem this]at h1
    exact⟨_,h1⟩
  ·rename_i k e hu
   split at h
   ·rename_i hc
    simp only[Bool.and_eq_true,decide_eq_true_eq,beq_iff_eq]at hc
    simp only[Option.map_eq_some_iff]at h
    obtain⟨le,he,rfl⟩:=h
    obtain⟨xs,m,_,_,_,hlen,hf⟩:=DataW.trod_array hu hd
    intro x hx
    simp only[List.mem_flatMap,List.mem_range,List.mem_map]at hx
    obtain⟨i,hi,x0,hx0,rfl⟩:=hx
    have h1:=hf i hi
    rw[List.getElem?_eq_getElem (by omega)]at h1
    have hb:i*P.cellsOf e+P.cellsOf e≤cs.length:=by
     rw[hl,←hc.2]
     have:(i+1)*P.cellsOf e≤k*P.cellsOf e:=Nat.mul_le_mul_right _ hi
     rw[Nat.add_mul,Nat.one_mul]at this
     exact this
    exact LeafAt.sub hb (leaves_trod d e le _ m _ he (by rw[List.length_take,List.length_drop]; omega) h1 x0 hx0)
   ·cases h
  ·rename_i hu1 hu2 hu3
   cases h
   intro x hx
   obtain rfl:=List.mem_singleton.1 hx
   refine⟨by simp[hl],n,y,?_⟩
   rw[List.drop_zero,←hl,List.take_length]
   exact hd
  ·cases h
theorem leavesF_trod:∀(d C:Nat) (fs:List Field) (l:List (TypeId×Nat×Nat)) (cs:List Value) (n:Nat),leavesF P d C fs=some l→cs.length=C→(∀f∈fs,∃y,DataW.trod enc P w 0 sp true n f.type ((cs.drop f.offset).take (P.cellsOf f.type))=some y)→∀x∈l,LeafAt enc P w sp cs x
 |_,_,[],l,_,_,h,_,_=>by
  cases l with
  |nil=>intro x hx; cases hx
  |cons a l=>unfold leavesF at h; cases h
 |0,_,_::_,_,_,_,h,_,_=>by cases h
 |d+1,C,f::fs,l,cs,n,h,hl,hf=>by
  unfold leavesF at h
  split at h
  ·rename_i hc
   split at h
   ·rename_i a b ha hb
    cases h
    intro x hx
    rcases List.mem_append.1 hx with hx|hx
    ·obtain⟨x0,hx0,rfl⟩:=List.mem_map.1 hx
     obtain⟨y,hy⟩:=hf f List.mem_cons_self
     exact LeafAt.sub (by omega) (leaves_trod d f.type a _ n y ha (by rw[List.length_take,List.length_drop]; omega) hy x0 hx0)
    ·exact leavesF_trod d C fs b cs n hb hl (fun g hg=>hf g (List.mem_cons_of_mem _ hg)) x hx
   ·cases h
  ·cases h
end
theorem leaf_one {cs:List Value}{t:TypeId}{i:Nat}(h:LeafAt enc P w sp cs (t,i,1)):∃v n y,cs[i]?=some v∧DataW.trod enc P w 0 sp true n t [v]=some y:=by
 obtain⟨h1,n,y,h2⟩:=h
 have hi:i<cs.length:=by simp only at h1; omega
 refine⟨cs[i],n,y,List.getElem?_eq_getElem hi,?_⟩
 have:(cs.drop i).take 1=[cs[i]]:=by
  rw[List.drop_eq_getElem_cons hi]; rfl
 rwa [this]at h2
theorem leaf_int {cs:List Value}{t:TypeId}{i:Nat}{k:IntKind}(ht:P.underlying t=some (.int k)) (h:LeafAt enc P w sp cs (t,i,1)):∃n:Int,cs[i]?=some (.int k n)∧(Lit.int k n).wf=true:=by
 obtain⟨v,n,y,h1,h2⟩:=leaf_one h
 obtain⟨m,h3,_,h4⟩:=DataW.trod_int ht h2
 obtain rfl:v=.int k m:=by simpa using h3
 exact⟨m,h1,h4⟩
theorem leaf_str {cs:List Value}{t:TypeId}{i:Nat}(ht:P.underlying t=some .string) (h:LeafAt enc P w sp cs (t,i,1)):∃s:ByteArray,cs[i]?=some (.string s)∧s.size≤maxLen:=by
 obtain⟨v,n,y,h1,h2⟩:=leaf_one h
 obtain⟨m,h3,_,h4⟩:=DataW.trod_string ht h2
 obtain rfl:v=.string m:=by simpa using h3
 exact⟨m,h1,h4⟩
theorem cells_get {w:World}{a:Addr}{n:Nat}{cs:List Value}(h:w.cells? 0 a n=some cs):cs.length=n∧∀k v,cs[k]?=some v→w.cell? (a.add k)=some v:=by
 unfold World.cells? at h
 split at h
 ·have hl:cs.length=n:=by simpa using mapM_some_length h
  refine⟨hl,fun k v hv=>?_⟩
  have hk:k<n:=by have:=(List.getElem?_eq_some_iff.1 hv).1; omega
  have h1:=mapM_some_get h k
  rw[hv]at h1
  simpa[hk] using h1
 ·cases h
theorem open_rows {t e:TypeId}{v:Value}{d:DataW H}{ps:List MemPlace}{r:Reach}{b0:Nat}{l:List (TypeId×Nat×Nat)}{dep C:Nat}(ht:P.underlying t=some (.slice e)) (hl:leaves P dep e=some l) (hC:P.cellsOf e=C) (hval:Value.okWide P w r b0 t v) (hd:DataW.Trod enc P w 0 (fun _=>true) true t v d ps):
  ∃(p:Option Addr) (len c:Nat),v=.slice p len c∧(len≠0→∃a,p=some a)∧∀a,p=some a→∀j,j<len→∃cs:List Value,cs.length=C∧(∀k u,cs[k]?=some u→w.cell? ((a.add (j*C)).add k)=some u)∧∀x∈l,LeafAt enc P w (fun _=>true) cs x:=by
 subst hC
 obtain⟨a0,len,cap,rfl⟩:=okWide_slice ht hval
 obtain⟨fuel,hf⟩:=hd
 rcases DataW.trod_slice ht hf with⟨h0,_⟩|⟨a,len',cap',elems,rest,n,_,h0,_,hb,hle,hm,hlen,hel,_⟩
 ·have:a0=none∧len=0∧cap=0:=by simpa[Value.cells] using h0
  obtain⟨rfl,rfl,rfl⟩:=this
  exact⟨none,0,0,rfl,fun h=>absurd rfl h,(fun a ha=>by cases ha)⟩
 ·have:a0=some a∧len=len'∧cap=cap':=by simpa[Value.cells] using h0
  obtain⟨rfl,rfl,rfl⟩:=this
  refine⟨some a,len,cap,rfl,fun _=>⟨a,rfl⟩,fun a' ha' j hj=>?_⟩
  cases ha'
  have h1:=hel j hj
  rw[List.getElem?_eq_getElem (by omega)]at h1
  simp only[Option.bind_eq_some_iff]at h1
  obtain⟨cs,hcs,ht2⟩:=h1
  obtain⟨h2,h3⟩:=cells_get hcs
  exact⟨cs,h2,h3,leaves_trod dep e l cs n _ hl h2 ht2⟩
theorem list_choice {α:Type}{Q:Nat→α→Prop}:∀(n:Nat),(∀j,j<n→∃x,Q j x)→∃l:List α,l.length=n∧∀j x,l[j]?=some x→Q j x
 |0,_=>⟨[],rfl,fun j x h=>by simp at h⟩
 |n+1,h=>by
  obtain⟨l,hl,hq⟩:=list_choice n fun j hj=>h j (by omega)
  obtain⟨x,hx⟩:=h n (by omega)
  refine⟨l++[x],by simp[hl],fun j y hy=>?_⟩
  rcases Nat.lt_or_ge j l.length with hj|hj
  ·rw[List.getElem?_append_left hj]at hy; exact hq j y hy
  ·rw[List.getElem?_append_right hj]at hy
   have:j=n:=by have:=(List.getElem?_eq_some_iff.1 hy).1; simp at this; omega
   subst this
   rw[hl,Nat.sub_self]at hy
   obtain rfl:x=y:=by simpa using hy
   exact hx
end
end Go.Sh
end
section
namespace Go.Proofs.YtkknkmplmilihaaGreat
open Go.ChangeShapes Go.WideShapes Go.ChangeAt Go.RowKit Go.Sh
theorem u8_of {a:Int}(h:(Lit.int .u8 a).wf=true):0≤a∧a<256:=by
 simp[Lit.wf,IntKind.min,IntKind.max,IntKind.bits,IntKind.signed]at h
 omega
theorem rng64_of {a:Int}(h:(Lit.int .i64 a).wf=true):Rng64 a:=by
 simp[Lit.wf,IntKind.min,IntKind.max,IntKind.bits,IntKind.signed]at h
 unfold Rng64
 omega
def ChgAt (w:World) (p:Option Addr) (l:List RP):Prop:=partsAt w p l∧∀x∈l,RngC x
theorem chg_of {w:World}{p:Option Addr}{len:Nat}(hp:len≠0→∃a,p=some a) (key:∀j,j<len→∃x:RP,RngC x∧∀a,p=some a→∀(m:Nat) (v:Value),(rpC x)[m]?=some v→w.cell? ((a.add (j*3)).add m)=some v):∃l:List RP,l.length=len∧ChgAt w p l:=by
 obtain⟨l,hll,hq⟩:=list_choice len key
 refine⟨l,hll,⟨fun hn=>hp fun h0=>hn (List.eq_nil_of_length_eq_zero (by omega)),fun a ha j x hx m v hv=>(hq j x hx).2 a ha m v hv⟩,fun x hx=>?_⟩
 obtain⟨j,hj⟩:=List.mem_iff_getElem?.1 hx
 exact(hq j x hj).1
theorem open_changes {H:Type}{enc:TypeId×Value→H}{w:World}{v:Value}{d:DataW H}{ps:List MemPlace}{r:Reach}{b0:Nat}(hval:Value.okWide Tryz.prog w r b0 22 v) (hd:DataW.Trod enc Tryz.prog w 0 (fun _=>true) true 22 v d ps):
  ∃(p:Option Addr) (c:Nat) (l:List RP),v=.slice p l.length c∧ChgAt w p l:=by
 have hlv:leaves Tryz.prog 20 47=some [(3,0,1),(3,1,1),(9,2,1)]:=by kernel_rfl
 obtain⟨p,len,c,rfl,hp,hat⟩:=open_rows (e:=47) (by kernel_rfl) hlv (C:=3) (by kernel_rfl) hval hd
 obtain⟨l,hll,hC⟩:=chg_of (w:=w) (p:=p) (len:=len) hp fun j hj=>by
  cases hpa:p with
  |none=>exact⟨⟨0,0,[]⟩,⟨⟨by show(-9223372036854775808:Int)≤0; omega,by show(0:Int)≤9223372036854775807; omega⟩,⟨by show(-9223372036854775808:Int)≤0; omega,by show(0:Int)≤9223372036854775807; omega⟩⟩,fun a ha=>by cases ha⟩
  |some a=>
   obtain⟨cs,hl,hc,hx⟩:=hat a hpa j hj
   obtain⟨k,e0,w0⟩:=leaf_int (k:=.i64) (by kernel_rfl) (hx (3,0,1) (by simp))
   obtain⟨o,e1,w1⟩:=leaf_int (k:=.i64) (by kernel_rfl) (hx (3,1,1) (by simp))
   obtain⟨s,e2,_⟩:=leaf_str (by kernel_rfl) (hx (9,2,1) (by simp))
   refine⟨⟨k,o,s.data.toList⟩,⟨rng64_of w0,rng64_of w1⟩,fun a' ha'=>?_⟩
   cases ha'
   refine fun m v hv=>hc m v ?_
   have hm:m<3:=(Array.getElem?_eq_some_iff.1 hv).1
   match m,hm with
   |0,_=>exact e0.trans hv
   |1,_=>exact e1.trans hv
   |2,_=>
    refine Eq.trans ?_ hv
    rw[e2]
    show some (Value.string s)=some (Value.string (strB s.data.toList))
    rw[strB_list]
 exact⟨p,c,l,by rw[hll],hC⟩
end Go.Proofs.YtkknkmplmilihaaGreat
end
