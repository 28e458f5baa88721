import Derived.WideLaws
import Derived.Test.YtkknkmplmilihaaGreatB15
import Derived.Test.YtkknkmplmilihaaGreatB19
import Derived.Test.YtkknkmplmilihaaGreatB20
set_option linter.unusedSimpArgs false
set_option linter.unusedVariables false
set_option maxHeartbeats 2000000
set_option maxRecDepth 20000
section
namespace Go.Proofs.YtkknkmplmilihaaGreat
open Go.Sh Go.RowKit
theorem len_map {P:Program}{t ty:TypeId}{w:World}{b clk:Nat}{l:List Ent}{cs:Array Bool}(ht:P.underlying t=some (.map (P.mapKeyOf t) (P.mapElemOf t))) (hb:w.heap[b]?=some (.map (l.map ent).toArray clk)):
  (builtin .len #[t] ty cs #[.map (some b)]).run P w=.ok (.value (.int .i64 (l.length:Int))) w:=by
 have:=run_len_map (P:=P) (w:=w) t ty b (l.map ent).toArray clk ht hb
 simp[builtin,Sem.run_bind,this,goInt]
theorem putK_keys {k:Int}{v:Value}{c:Nat}{l:List Ent}:(putK k v l c).map (·.1)=if k∈l.map (·.1) then l.map (·.1) else l.map (·.1)++[k]:=by
 have hg:∀l:List Ent,(getK k l).isSome=true↔k∈l.map (·.1):=fun l=>by
  induction l with
  |nil=>simp[getK]
  |cons x l ih=>
   simp only[getK,List.map_cons,List.mem_cons]
   by_cases h:x.1=k
   ·simp[h]
   ·rw[if_neg h,ih]
    constructor
    ·exact .inr
    ·rintro(e|e)
     ·exact absurd e.symm h
     ·exact e
 have hs:∀l:List Ent,(setK k v l).map (·.1)=l.map (·.1):=fun l=>by
  induction l with
  |nil=>rfl
  |cons x l ih=>
   simp only[setK]
   split
   ·rename_i h; simp[h]
   ·simp[ih]
 unfold putK
 by_cases h:(getK k l).isSome=true
 ·rw[if_pos h,if_pos ((hg l).1 h),hs]
 ·rw[if_neg h,if_neg fun hh=>h ((hg l).2 hh),List.map_append]; rfl
theorem column17_spec {s:RwS}(hG:OkG s.c s.k s.r){at_:Int}(hat:0≤at_∧at_<s.r){role:Int}(hr:0≤role∧role<s.c) (w:World):
  Ret Tryz.prog 22 #[.agg #[.int .i64 s.c,.int .i64 s.k,.int .i64 s.r],.int .i64 at_,.int .i64 role] w (.int .i64 (colR s at_ role)):=by
 refine ret_of (revetmentref17_Column_calls ?_)
 unfold revetmentref17_Column
 have h10:=hG.2.1
 obtain⟨c0,c1⟩:=colR_in hG hat hr
 have hrole:∀i:Int,0≤i→i<s.c→(roleG s.c s.k s.r at_ i=role↔i=colR s at_ role):=fun i h0 h1=>by
  obtain⟨g,rfl⟩:∃g:Nat,i=(g:Int):=⟨i.toNat,by omega⟩
  obtain⟨r,rfl⟩:∃r:Nat,role=(r:Int):=⟨role.toNat,by omega⟩
  rw[role_colR hG hat (by omega) (by omega)]
 refine Alloc.t (T.nil w) fun k1 w1 h1=>?_
 refine⟨fun vs w'=>∃i:Nat,vs=[.int .i64 (i:Int)]∧(i:Int)≤colR s at_ role∧T [] w w' [blk k1 #[.int .i64 s.c,.int .i64 s.k,.int .i64 s.r] 26],fun vs _=>match vs with|[.int _ i]=>(s.c-i).toNat|_=>0,⟨0,rfl,by omega,h1⟩,?_⟩
 rintro vs w2 ⟨i,rfl,hi,h2⟩
 refine⟨_,rfl,_,h2.ld (b:=k1) (by repeat constructor) rfl,dec_t fun hlt=>?_,dec_f fun hge=>by omega⟩
 refine⟨_,_,_,⟨h2.ld (b:=k1) (by repeat constructor) rfl,h2.ld (b:=k1) (by repeat constructor) rfl,h2.ld (b:=k1) (by repeat constructor) rfl⟩,?_⟩
 refine(rrole_spec s.c s.k s.r at_ i w2).mono fun e w3 ⟨he3,hx3⟩=>⟨_,he3,beq_t fun hq=>?_,beq_f fun hq=>⟨⟨i+1,?_,?_,h2.quiet hx3⟩,?_⟩⟩
 ·rw[(hrole i (by omega) (by omega)).1 hq]
  exact⟨rfl,(h2.quiet hx3).chg.ext⟩
 ·rw[wrap64 _ (by omega) (by omega)]; rfl
 ·have:(i:Int)≠colR s at_ role:=fun e=>hq ((hrole i (by omega) (by omega)).2 e)
  omega
 ·show(s.c-IntKind.i64.wrap ((i:Int)+1)).toNat<(s.c-(i:Int)).toNat
  rw[wrap64 _ (by omega) (by omega)]; omega
section
variable {s:RwS}{ds:List Od}{bu:List Int}{N M:Nat}{K:Nat→Nat}{f:Nat→Nat→ByteArray}{at_:Int}{l:List RP}{c:Nat}
theorem goodP_len (h:GoodA s ds bu N M K f at_ l c) (hK:∀i,i<c→K i=0) (hm:misL (lostK s bu K at_) c=[]):(goodP s ds bu K f at_ l c).length=l.length+2*(offsC s l).length:=by
 have hG:=h.md.ok
 have hc:=h.c'
 have hat:=h.at'
 have hlen:=h.md.len
 have h4:=hG.1
 have hrc:∀r:Nat,r<c→roleG s.c s.k s.r at_ (colR s at_ r)=(r:Int):=fun r hr=>by
  have hcn:=colR_nat hG hat (role:=(r:Int)) (by omega)
  have:=(role_colR hG hat (col:=colR s at_ r) (role:=(r:Int)) (by omega) (by omega)).2 rfl
  exact this
 have hmem:=fun y=>goodP_mem (s:=s) (ds:=ds) (bu:=bu) (K:=K) (f:=f) (at_:=at_) (l:=l) (c:=c) hc (y:=y)
 have hap:=goodP_apart (ds:=ds) (bu:=bu) (K:=K) (f:=f) (l:=l) hG hat hc
 rw[hm]at hmem
 generalize goodP s ds bu K f at_ l c=p at hmem hap
 have hth:∀r:Nat,r<c→(thereO ds (colR s at_ r).toNat).isSome=true:=fun r hr=>by
  have hcn:=colR_nat hG hat (role:=(r:Int)) (by omega)
  obtain⟨pp,a,_,_,ht⟩:=h.md.there (i:=(colR s at_ r).toNat) (by omega) (hK _ (by omega))
  rw[ht]; rfl
 have n1:(p.map fun y=>(y.off,roleG s.c s.k s.r at_ y.col)).Nodup:=by
  rw[List.Nodup,List.pairwise_map]
  refine List.Pairwise.imp_of_mem ?_ hap
  intro x y hx hy hxy e
  obtain⟨o,ho,r,hr,_,_,rfl⟩:=(hmem x).1 hx
  obtain⟨o',ho',r',hr',_,_,rfl⟩:=(hmem y).1 hy
  have e1:o=o':=(Prod.mk.inj e).1
  have e2:=(Prod.mk.inj e).2
  have e2:roleG s.c s.k s.r at_ (colR s at_ r)=roleG s.c s.k s.r at_ (colR s at_ r'):=e2
  rw[hrc r hr,hrc r' hr']at e2
  have:r=r':=by omega
  subst this
  exact hxy ⟨rfl,e1⟩
 have n2:(l.map (fun x=>(x.off,x.col))++((offsC s l).map (fun o=>(o,((c-2:Nat):Int)))++(offsC s l).map (fun o=>(o,((c-1:Nat):Int))))).Nodup:=by
  have hon:=offsC_nodup s l
  refine List.nodup_append.2 ⟨h.nd,List.nodup_append.2 ⟨?_,?_,fun a ha b hb e=>?_⟩,fun a ha b hb e=>?_⟩
  ·rw[List.Nodup,List.pairwise_map]; exact hon.imp fun {a b} hab e=>hab (Prod.mk.inj e).1
  ·rw[List.Nodup,List.pairwise_map]; exact hon.imp fun {a b} hab e=>hab (Prod.mk.inj e).1
  ·obtain⟨o,_,rfl⟩:=List.mem_map.1 ha
   obtain⟨o',_,rfl⟩:=List.mem_map.1 hb
   have:=(Prod.mk.inj e).2
   omega
  ·obtain⟨x,hx,rfl⟩:=List.mem_map.1 ha
   have:=h.ch x hx
   rcases List.mem_append.1 hb with hb|hb
   ·obtain⟨o',_,rfl⟩:=List.mem_map.1 hb
    have:=(Prod.mk.inj e).2
    omega
   ·obtain⟨o',_,rfl⟩:=List.mem_map.1 hb
    have:=(Prod.mk.inj e).2
    omega
 have hperm:=(List.perm_ext_iff_of_nodup n1 n2).2 fun z=>by
  obtain⟨zo,zr⟩:=z
  rw[List.mem_map,List.mem_append,List.mem_append,List.mem_map,List.mem_map,List.mem_map]
  constructor
  ·rintro⟨y,hy,e⟩
   obtain⟨o,ho,r,hr,hw,_,rfl⟩:=(hmem y).1 hy
   have e1:o=zo:=(Prod.mk.inj e).1
   have e2:roleG s.c s.k s.r at_ (colR s at_ r)=zr:=(Prod.mk.inj e).2
   rw[hrc r hr]at e2
   subst e1 e2
   unfold wantB at hw
   rw[Bool.or_eq_true,Bool.or_eq_true]at hw
   rcases hw with(hw|hw)|hw
   ·have:=of_decide_eq_true hw
    by_cases e3:r=c-2
    ·exact .inr (.inl ⟨o,ho,by rw[e3]⟩)
    ·exact .inr (.inr ⟨o,ho,by rw[show r=c-1 by omega]⟩)
   ·have:=of_decide_eq_true hw
    cases this
   ·obtain⟨x,hx,he⟩:=List.any_eq_true.1 hw
    rw[Bool.and_eq_true]at he
    exact .inl ⟨x,hx,by rw[show x.off=o by simpa using he.1,show x.col=(r:Int) by simpa using he.2]⟩
  ·have mk:∀(o:Int) (r:Nat),o∈offsC s l→r<c→wantB l o (c-2) [] r=true→∃a,a∈p∧(a.off,roleG s.c s.k s.r at_ a.col)=(o,(r:Int)):=fun o r ho hr hw=>
    ⟨⟨colR s at_ r,o,(rowF l o (rwT s f at_ o c)).getD r []⟩,(hmem _).2 ⟨o,ho,r,hr,hw,hth r hr,rfl⟩,by show(o,roleG s.c s.k s.r at_ (colR s at_ r))=_; rw[hrc r hr]⟩
   rintro(⟨x,hx,e⟩|⟨o,ho,e⟩|⟨o,ho,e⟩)
   ·have hxc:=h.ch x hx
    have e1:x.off=zo:=(Prod.mk.inj e).1
    have e2:x.col=zr:=(Prod.mk.inj e).2
    obtain⟨r,hr⟩:∃r:Nat,x.col=(r:Int):=⟨x.col.toNat,by omega⟩
    obtain⟨a,h1,h2⟩:=mk x.off r (offsC_mem.2 ⟨hxc.2.1,x,hx,rfl⟩) (by omega) (by
     unfold wantB
     rw[Bool.or_eq_true]
     exact .inr (List.any_eq_true.2 ⟨x,hx,by simp[hr]⟩))
    exact⟨a,h1,by rw[h2,←e1,←e2,hr]⟩
   ·obtain⟨a,h1,h2⟩:=mk o (c-2) ho (by omega) (by unfold wantB; rw[decide_eq_true (Nat.le_refl _)]; rfl)
    exact⟨a,h1,by rw[h2]; exact e⟩
   ·obtain⟨a,h1,h2⟩:=mk o (c-1) ho (by omega) (by unfold wantB; rw[decide_eq_true (by omega)]; rfl)
    exact⟨a,h1,by rw[h2]; exact e⟩
 have:=hperm.length_eq
 rw[List.length_map,List.length_append,List.length_append,List.length_map,List.length_map,List.length_map]at this
 omega
end
theorem few17_law {a b d:Int}(ha:0≤a∧a≤255) (hb:0≤b∧b≤255) (hd:0≤d∧d≤255){l:List RP}{p:Option Addr}{c0:Nat}{w:World}(hp:partsAt w p l) (hr:∀x∈l,RngC x):
  Ret Tryz.prog 4 #[.int .u8 a,.int .u8 b,.int .u8 d,.slice p l.length c0] w (.bool true):=by
 refine ret_of (revetmentlaw17_StripeFew_calls ?_)
 unfold revetmentlaw17_StripeFew
 refine(weighs17_spec hp).mono fun e w1 ⟨he1,hx1⟩=>⟨_,he1,fun hh=>shown17_end hx1,fun hh=>?_⟩
 refine(shown17_spec w1).mono fun e w2 ⟨he2,hx2⟩=>⟨_,he2,no rfl ?_⟩
 obtain⟨hl30,hl100⟩:=weighsR_short hh
 refine setup17 ha hb hd false (hx1.trans hx2) fun gc gk gr N s sr ds rs q u rj rk aj k1 k2 w3 e1 e2 e3 hN hrk hB H3=>?_
 obtain⟨ec,ek,er⟩:=hB.g
 have gb:(4≤gc∧gc≤7)∧(1≤gk∧gk≤3)∧(1≤gr∧gr≤6):=by omega
 obtain⟨c,hc⟩:∃c:Nat,gc=(c:Int):=⟨gc.toNat,by omega⟩
 obtain⟨hM,hH,hl⟩:=hB.md (by unfold OkG; omega) hN
 have hcn:gc.toNat=c:=by omega
 rw[hcn]at hM hl H3
 have H3:Ow (seK s ds (List.replicate c gr)) [] w w3 [blk k2 (pC s sr c q u none none) 40,geoA k1 gc gk gr]:=Ow.leave (Z:=[blk rj (rgC q 3 0 1) 128,blk rk (krC u 0 1) 167]) H3.fst.fst
 have hlb:(List.replicate c gr).length=c:=List.length_replicate
 have hok:=hM.ok
 have hat:0≤(0:Int)∧(0:Int)<s.r:=by omega
 have hsc:s.c=(c:Int):=by omega
 have c1:∀{h:Kd} {w':World} {X:List A},Ow h [] w w' X→geoA k1 gc gk gr∈X→∀i v,(#[Value.int .i64 gc,.int .i64 gk,.int .i64 gr]:Array Value)[i]?=some v→w'.cell? ⟨k1,i,none⟩=some v:=fun h' hm i v hv=>h'.ld hm hv
 have c2:∀{h:Kd} {w':World} {X:List A},Ow h [] w w' X→blk k2 (pC s sr c q u none none) 40∈X→∀i v,(pC s sr c q u none none)[i]?=some v→w'.cell? ⟨k2,i,none⟩=some v:=fun h' hm i v hv=>h'.ld hm hv
 refine⟨_,_,_,⟨c1 H3 (by repeat constructor) 0 _ rfl,c1 H3 (by repeat constructor) 1 _ rfl,c1 H3 (by repeat constructor) 2 _ rfl⟩,?_⟩
 refine(distinct17_spec (c:=gc) (k:=gk) (r:=gr) (by omega) (by omega) (hp.ext H3.ext) hr (by omega) (fun x hx=>by have:=hl100 x hx; omega)).mono fun e w4 ⟨g,cap,he4,hT4⟩=>⟨_,_,_,he4,?_⟩
 have H4:Ow (seK s ds (List.replicate c gr)) [] w w4 [rowP 47 3 g (distR gc gk l).length cap (rpL (distR gc gk l)),blk k2 (pC s sr c q u none none) 40,geoA k1 gc gk gr]:=Ow.new H3 hT4
 have hD:=distR_ok (c:=gc) (k:=gk) (by omega) (by omega) (l:=l)
 have hDl:(distR gc gk l).length≤1000:=by
  have:=dstF_len (l.map (normR gc gk))
  rw[List.length_map]at this
  unfold distR; omega
 generalize distR gc gk l=D at hD hDl H4
 refine⟨_,_,_,_,_,_,_,_,_,⟨c2 H4 (by repeat constructor) 0 _ rfl,c2 H4 (by repeat constructor) 1 _ rfl,c2 H4 (by repeat constructor) 2 _ rfl,c2 H4 (by repeat constructor) 3 _ rfl,c2 H4 (by repeat constructor) 4 _ rfl⟩,?_⟩
 have dAt:∀{h:Kd} {w':World} {X:List A},Ow h [] w w' X→rowP 47 3 g D.length cap (rpL D)∈X→partsAt w' (ptr g) D:=fun h' hm=>T.partsT h'.under hm
 have hK0:∀i,i<c→(fun _:Nat=>0) i=0:=fun _ _=>rfl
 have hmis:=misL_zero (bu:=List.replicate c gr) hok hat hsc (fun i _=>Nat.zero_ne_one) (fun i hi=>by rw[repl_getD hi]; omega)
 have hgA:GoodA s ds (List.replicate c gr) N 0 (fun _=>0) (fun _ _=>zeroSec) 0 D c:=⟨hM,hH,fun i _=>(show(0:Nat)≠2 by decide),hat,hsc,fun off ho=>zero_row s 0 off (by omega) (by omega),by rw[hmis]; decide,fun x hx=>by have:=hD.1 x hx; omega,hD.2⟩
 have hPs:=parts17_spec (at_:=0) (c:=cap) (se_w H4) (by omega) (hM.few.mono (by omega)) (dAt H4 (by repeat constructor)) (by omega)
 rw[hl,hlb]at hPs
 refine hPs.mono fun e w5 ⟨v,he5,hv⟩=>?_
 rw[hgA.ap.1]at hv
 obtain⟨g2,cp,rfl,hT5⟩:=hv
 have H5:=Ow.new H4 hT5
 have hplen:=goodP_len hgA hK0 hmis
 have hpown:=fun x hx=>goodP_own hgA hK0 (x:=x) hx
 have hp40:=hgA.ap.2.1
 generalize goodP s ds (List.replicate c gr) (fun _=>0) (fun _ _=>zeroSec) 0 D c=p5 at hplen hpown hp40 H5 he5
 refine⟨_,_,_,_,he5,no rfl ?_⟩
 obtain⟨Y5,hY5,hT5⟩:=H5
 refine AllocM.t hT5 fun k3 w6 h6=>?_
 have h6:T [] w w6 (mapP k3 [] 0::(([rowP 64 3 g2 p5.length cp (rpL p5)]++[rowP 47 3 g D.length cap (rpL D),blk k2 (pC s sr c q u none none) 40,geoA k1 gc gk gr])++Y5)):=h6
 refine⟨fun vs w'=>∃(i clk:Nat) (ents:List Ent),vs=[.int .i64 (i:Int)]∧i≤D.length∧(ents.map (·.1)).Nodup∧(∀o,o∈ents.map (·.1)↔∃x∈D.take i,x.off=o)∧T [] w w' (mapP k3 ents clk::(([rowP 64 3 g2 p5.length cp (rpL p5)]++[rowP 47 3 g D.length cap (rpL D),blk k2 (pC s sr c q u none none) 40,geoA k1 gc gk gr])++Y5)),fun vs _=>match vs with|[.int _ i]=>(D.length-i).toNat|_=>0,⟨0,0,[],rfl,by omega,by simp,by simp,h6⟩,?_⟩
 clear h6 hT5
 rintro vs w7 ⟨i,clk,ents,rfl,hi,hnd,hks,h7⟩
 have hD7:partsAt w7 (ptr g) D:=T.partsT h7 (t:=47) (n:=D.length) (cap:=cap) (by repeat constructor)
 refine⟨_,rfl,dec_t fun hlt=>?_,dec_f fun hge=>?_⟩
 ·have hlt:i<D.length:=by omega
  obtain⟨ad,had,_,q1,_⟩:=hD7.get hlt
  obtain⟨w8,hr8,h8⟩:=ask_put h7 (D[i]).off
  refine⟨ad,had,by omega,by omega,_,by rw[Int.toNat_natCast]; exact q1,w8,hr8,⟨i+1,_,_,by rw[wrap64 _ (by omega) (by omega)]; rfl,by omega,?_,fun o=>?_,h8⟩,?_⟩
  ·rw[putK_keys]
   split
   ·exact hnd
   ·rename_i hn
    refine List.nodup_append.2 ⟨hnd,by simp,fun a ha b hb e=>?_⟩
    rw[List.mem_singleton.1 hb]at e
    exact hn (e▸ha)
  ·have htake:D.take (i+1)=D.take i++[D[i]]:=by rw[List.take_add_one,List.getElem?_eq_getElem hlt]; rfl
   rw[putK_keys,htake]
   have e1:(∃x∈D.take i++[D[i]],x.off=o)↔(∃x∈D.take i,x.off=o)∨o=(D[i]).off:=by
    constructor
    ·rintro⟨x,hx,rfl⟩
     rcases List.mem_append.1 hx with hx|hx
     ·exact .inl ⟨x,hx,rfl⟩
     ·exact .inr (by rw[List.mem_singleton.1 hx])
    ·rintro(⟨x,hx,rfl⟩|rfl)
     ·exact⟨x,List.mem_append_left _ hx,rfl⟩
     ·exact⟨_,List.mem_append_right _ List.mem_cons_self,rfl⟩
   rw[e1,←hks]
   split
   ·rename_i hn
    exact⟨.inl,fun h=>h.elim id fun e=>e▸hn⟩
   ·rw[List.mem_append,List.mem_singleton]
  ·show((D.length:Int)-IntKind.i64.wrap ((i:Int)+1)).toNat<((D.length:Int)-(i:Int)).toNat
   rw[wrap64 _ (by omega) (by omega)]; omega
 obtain rfl:i=D.length:=by omega
 rw[List.take_length]at hks
 have hel:ents.length=(offsC s D).length:=by
  have hpm:=(List.perm_ext_iff_of_nodup hnd (offsC_nodup s D)).2 fun o=>by
   rw[hks,offsC_mem]
   constructor
   ·rintro⟨x,hx,rfl⟩
    have:=hD.1 x hx
    exact⟨by omega,x,hx,rfl⟩
   ·exact fun h=>h.2
  have:=hpm.length_eq
  rwa [List.length_map]at this
 refine⟨_,w7,len_map (by kernel_rfl) (h7.got List.mem_cons_self),bne_t fun hn=>?_,bne_f fun _=>?_⟩
 ·have:=offsC_le s D
  rw[wrap64 (2*(ents.length:Int)) (by omega) (by omega),wrap64 _ (by omega) (by omega)]at hn
  omega
 have h7:T [] w w7 (([rowP 64 3 g2 p5.length cp (rpL p5)]++[rowP 47 3 g D.length cap (rpL D),blk k2 (pC s sr c q u none none) 40,geoA k1 gc gk gr])++Y5):=h7.drop
 clear hD7
 generalize hΓ:([rowP 64 3 g2 p5.length cp (rpL p5)]++[rowP 47 3 g D.length cap (rpL D),blk k2 (pC s sr c q u none none) 40,geoA k1 gc gk gr])++Y5=Γ at h7
 have mP:rowP 64 3 g2 p5.length cp (rpL p5)∈Γ:=by rw[←hΓ]; exact(by repeat constructor)
 have mD:rowP 47 3 g D.length cap (rpL D)∈Γ:=by rw[←hΓ]; exact(by repeat constructor)
 have mG:geoA k1 gc gk gr∈Γ:=by rw[←hΓ]; exact(by repeat constructor)
 clear hΓ
 refine⟨fun vs w'=>∃i:Nat,vs=[.int .i64 (i:Int)]∧i≤D.length∧T [] w w' Γ,fun vs _=>match vs with|[.int _ i]=>(D.length-i).toNat|_=>0,⟨0,rfl,by omega,h7⟩,?_⟩
 clear h7
 rintro vs w8 ⟨i,rfl,hi,h8⟩
 refine⟨_,rfl,dec_t fun hlt=>?_,dec_f fun hge=>⟨rfl,h8.chg.ext⟩⟩
 have hlt:i<D.length:=by omega
 have hyo:=hpown D[i] (List.getElem_mem hlt)
 have hDi:=hD.1 D[i] (List.getElem_mem hlt)
 refine⟨fun vs w'=>∃k:Nat,vs=[.bool ((p5.take k).any fun y=>decide (y=⟨colR s 0 (D[i]).col,(D[i]).off,(D[i]).data⟩)),.int .i64 (k:Int)]∧k≤p5.length∧T [] w w' Γ,fun vs _=>match vs with|[_,.int _ i]=>(p5.length-i).toNat|_=>0,⟨0,rfl,by omega,h8⟩,?_⟩
 clear h8
 rintro vs w9 ⟨k,rfl,hk,h9⟩
 refine⟨_,_,rfl,dec_t fun hkt=>?_,dec_f fun hkg=>?_⟩
 rotate_left
 ·obtain rfl:k=p5.length:=by omega
  rw[List.take_length,List.any_eq_true.2 ⟨_,hyo,decide_eq_true rfl⟩]
  refine no rfl ⟨⟨i+1,by rw[wrap64 _ (by omega) (by omega)]; rfl,by omega,h9⟩,?_⟩
  show((D.length:Int)-IntKind.i64.wrap ((i:Int)+1)).toNat<((D.length:Int)-(i:Int)).toNat
  rw[wrap64 _ (by omega) (by omega)]; omega
 have hkt:k<p5.length:=by omega
 have hme:((p5.length:Int)-IntKind.i64.wrap ((k:Int)+1)).toNat<((p5.length:Int)-(k:Int)).toNat:=by rw[wrap64 _ (by omega) (by omega)]; omega
 have hwk:IntKind.i64.wrap ((k:Int)+1)=((k+1:Nat):Int):=by rw[wrap64 _ (by omega) (by omega)]; rfl
 have hnx:(p5.take (k+1)).any (fun y=>decide (y=⟨colR s 0 (D[i]).col,(D[i]).off,(D[i]).data⟩))=((p5.take k).any (fun y=>decide (y=⟨colR s 0 (D[i]).col,(D[i]).off,(D[i]).data⟩))||decide (p5[k]=⟨colR s 0 (D[i]).col,(D[i]).off,(D[i]).data⟩)):=by
  rw[List.take_add_one,List.getElem?_eq_getElem hkt,List.any_append]; simp
 have go:∀(b:Bool) (w':World),b=(p5.take (k+1)).any (fun y=>decide (y=⟨colR s 0 (D[i]).col,(D[i]).off,(D[i]).data⟩))→T [] w w' Γ→(∃k':Nat,[Value.bool b,.int .i64 (IntKind.i64.wrap ((k:Int)+1))]=[.bool ((p5.take k').any fun y=>decide (y=⟨colR s 0 (D[i]).col,(D[i]).off,(D[i]).data⟩)),.int .i64 (k':Int)]∧k'≤p5.length∧T [] w w' Γ)∧((p5.length:Int)-IntKind.i64.wrap ((k:Int)+1)).toNat<((p5.length:Int)-(k:Int)).toNat:=fun b w' hb h'=>⟨⟨k+1,by rw[hb,hwk],by omega,h'⟩,hme⟩
 obtain⟨a2,ha2,-,-,-⟩:=(T.partsT h9 mP).get hkt
 obtain⟨a1,ha1,-,-,-⟩:=(T.partsT h9 mD).get hlt
 have cP:∀w',T [] w w' Γ→w'.cell? (a2.add (k*3))=some (.int .i64 (p5[k]).col)∧w'.cell? ((a2.add (k*3)).add 1)=some (.int .i64 (p5[k]).off)∧w'.cell? ((a2.add (k*3)).add 2)=some (.string (strB (p5[k]).data)):=fun w' h'=>by
  obtain⟨a',ha',hh⟩:=(T.partsT h' mP).get hkt
  rw[ha2]at ha'; cases ha'; exact hh
 have cD:∀w',T [] w w' Γ→w'.cell? (a1.add (i*3))=some (.int .i64 (D[i]).col)∧w'.cell? ((a1.add (i*3)).add 1)=some (.int .i64 (D[i]).off)∧w'.cell? ((a1.add (i*3)).add 2)=some (.string (strB (D[i]).data)):=fun w' h'=>by
  obtain⟨a',ha',hh⟩:=(T.partsT h' mD).get hlt
  rw[ha1]at ha'; cases ha'; exact hh
 generalize p5[k]=y at cP hnx
 generalize D[i]=x at cD hnx go hDi
 generalize (p5.take (k+1)).any (fun y=>decide (y=⟨colR s 0 x.col,x.off,x.data⟩))=bn at hnx go
 generalize (p5.take k).any (fun y=>decide (y=⟨colR s 0 x.col,x.off,x.data⟩))=bk at hnx
 refine⟨fun w'=>T [] w w' Γ,h9.drew,fun hb=>go true _ (by rw[hnx,hb]; rfl) h9.drew,fun hb=>?_⟩
 rw[hb,Bool.false_or]at hnx
 have nope:¬y=⟨colR s 0 x.col,x.off,x.data⟩→bn=false:=fun h=>by rw[hnx]; exact decide_eq_false h
 refine⟨a2,ha2,by omega,by omega,_,fun w' h'=>by rw[Int.toNat_natCast]; exact(cP w' h').2.1,a1,ha1,by omega,by omega,_,fun w' h'=>by rw[Int.toNat_natCast]; exact(cD w' h').2.1,beq_t fun q1=>?_,beq_f fun q1=>go false _ (nope fun e=>q1 (by rw[e])).symm h9.drew⟩
 refine⟨a2,ha2,by omega,by omega,_,fun w' h'=>by rw[Int.toNat_natCast]; exact(cP w' h').2.2,a1,ha1,by omega,by omega,_,fun w' h'=>by rw[Int.toNat_natCast]; exact(cD w' h').2.2,fun q2=>?_,fun q2=>go false _ (nope fun e=>?_).symm h9.drew⟩
 rotate_left
 ·rw[e]at q2
  simp at q2
 have q2:y.data=x.data:=by
  have:=eq_of_beq q2
  rwa [strB_toList,strB_toList]at this
 refine⟨a2,ha2,by omega,by omega,_,fun w' h'=>by rw[Int.toNat_natCast]; exact(cP w' h').1,gc,gk,gr,fun w' h'=>⟨h'.ld (b:=k1) mG rfl,h'.ld (b:=k1) mG rfl,h'.ld (b:=k1) mG rfl⟩,a1,ha1,by omega,by omega,_,fun w' h'=>by rw[Int.toNat_natCast]; exact(cD w' h').1,?_⟩
 have hcs:=column17_spec hok hat (role:=x.col) (by omega) w9.drew
 rw[ec,ek,er]at hcs
 refine hcs.mono fun e w10 ⟨he10,hx10⟩=>⟨_,he10,h9.drew.quiet hx10,go _ w10 ?_ (h9.drew.quiet hx10)⟩
 rw[hnx,Bool.eq_iff_iff,beq_iff_eq,decide_eq_true_eq]
 constructor
 ·intro h
  cases y
  cases h; cases q1; cases q2
  rfl
 ·intro h; rw[h]
end Go.Proofs.YtkknkmplmilihaaGreat
end
section
namespace Go.Sh
open Go.ChangeShapes Go.WideShapes Go.ChangeAt Go.RowKit
mutual
def leaves (P:Program):Nat→TypeId→Option (List (TypeId×Nat×Nat))
 |0,_=>none
 |d+1,t=>match P.underlying t with
  |some (.struct fs)=>leavesF P d (P.cellsOf t) fs.toList
  |some (.array n e)=>if n≤12&&n*P.cellsOf e==P.cellsOf t then (leaves P d e).map fun l=>(List.range n).flatMap fun i=>l.map fun x=>(x.1,i*P.cellsOf e+x.2.1,x.2.2) else none
  |some _=>some [(t,0,P.cellsOf t)]
  |none=>none
def leavesF (P:Program):Nat→Nat→List Field→Option (List (TypeId×Nat×Nat))
 |_,_,[]=>some []
 |0,_,_=>none
 |d+1,C,f::fs=>if f.offset+P.cellsOf f.type≤C then match leaves P d f.type,leavesF P d C fs with
  |some a,some b=>some (a.map (fun x=>(x.1,f.offset+x.2.1,x.2.2))++b)
  |_,_=>none else none
end
section
variable {P:Program}{H:Type}{enc:TypeId×Value→H}{w:World}{sp:Nat→Bool}
def LeafAt (enc:TypeId×Value→H) (P:Program) (w:World) (sp:Nat→Bool) (cs:List Value) (x:TypeId×Nat×Nat):Prop:=x.2.1+x.2.2≤cs.length∧∃n y,DataW.trod enc P w 0 sp true n x.1 ((cs.drop x.2.1).take x.2.2)=some y
theorem LeafAt.sub {cs:List Value}{o n:Nat}{x:TypeId×Nat×Nat}(hn:o+n≤cs.length) (h:LeafAt enc P w sp ((cs.drop o).take n) x):LeafAt enc P w sp cs (x.1,o+x.2.1,x.2.2):=by
 obtain⟨h1,m,y,h2⟩:=h
 rw[List.length_take,List.length_drop]at h1
 refine⟨?_,m,y,?_⟩
 ·show o+x.2.1+x.2.2≤_; omega
 rw[List.drop_take,List.drop_drop,List.take_take]at h2
 show DataW.trod enc P w 0 sp true m x.1 ((cs.drop (o+x.2.1)).take x.2.2)=some y
 rwa [show min x.2.2 (n-x.2.1)=x.2.2 by omega]at h2
mutual
theorem leaves_trod:∀(d:Nat) (t:TypeId) (l:List (TypeId×Nat×Nat)) (cs:List Value) (n:Nat) (y:DataW H×List MemPlace),leaves P d t=some l→cs.length=P.cellsOf t→DataW.trod enc P w 0 sp true n t cs=some y→∀x∈l,LeafAt enc P w sp cs x
 |0,_,_,_,_,_,h,_,_=>by cases h
 |d+1,t,l,cs,n,y,h,hl,hd=>by
  unfold leaves at h
  split at h
  ·rename_i fs hu
   obtain⟨xs,m,_,_,_,hlen,hf⟩:=DataW.trod_struct hu hd
   exact leavesF_trod d (P.cellsOf t) fs.toList l cs m h hl fun f hm=>by
    obtain⟨i,hi⟩:=List.mem_iff_getElem?.1 hm
    have h1:=hf i f (by simpa using hi)
    have:i<xs.length:=by rw[hlen]; have:=(List.getElem?_eq_some_iff.1 hi).1; simpa using this
    rw[List.getElem?_eq_getElem this]at h1
    exact⟨_,h1⟩
  ·rename_i k e hu
   split at h
   ·rename_i hc
    simp only[Bool.and_eq_true,decide_eq_true_eq,beq_iff_eq]at hc
    simp only[Option.map_eq_some_iff]at h
    obtain⟨le,he,rfl⟩:=h
    obtain⟨xs,m,_,_,_,hlen,hf⟩:=DataW.trod_array hu hd
    intro x hx
    simp only[List.mem_flatMap,List.mem_range,List.mem_map]at hx
    obtain⟨i,hi,x0,hx0,rfl⟩:=hx
    have h1:=hf i hi
    rw[List.getElem?_eq_getElem (by omega)]at h1
    have hb:i*P.cellsOf e+P.cellsOf e≤cs.length:=by
     rw[hl,←hc.2]
     have:(i+1)*P.cellsOf e≤k*P.cellsOf e:=Nat.mul_le_mul_right _ hi
     rw[Nat.add_mul,Nat.one_mul]at this
     exact this
    exact LeafAt.sub hb (leaves_trod d e le _ m _ he (by rw[List.length_take,List.length_drop]; omega) h1 x0 hx0)
   ·cases h
  ·rename_i hu1 hu2 hu3
   cases h
   intro x hx
   obtain rfl:=List.mem_singleton.1 hx
   refine⟨by simp[hl],n,y,?_⟩
   rw[List.drop_zero,←hl,List.take_length]
   exact hd
  ·cases h
theorem leavesF_trod:∀(d C:Nat) (fs:List Field) (l:List (TypeId×Nat×Nat)) (cs:List Value) (n:Nat),leavesF P d C fs=some l→cs.length=C→(∀f∈fs,∃y,DataW.trod enc P w 0 sp true n f.type ((cs.drop f.offset).take (P.cellsOf f.type))=some y)→∀x∈l,LeafAt enc P w sp cs x
 |_,_,[],l,_,_,h,_,_=>by
  cases l with
  |nil=>intro x hx; cases hx
  |cons a l=>unfold leavesF at h; cases h
 |0,_,_::_,_,_,_,h,_,_=>by cases h
 |d+1,C,f::fs,l,cs,n,h,hl,hf=>by
  unfold leavesF at h
  split at h
  ·rename_i hc
   split at h
   ·rename_i a b ha hb
    cases h
    intro x hx
    rcases List.mem_append.1 hx with hx|hx
    ·obtain⟨x0,hx0,rfl⟩:=List.mem_map.1 hx
     obtain⟨y,hy⟩:=hf f List.mem_cons_self
     exact LeafAt.sub (by omega) (leaves_trod d f.type a _ n y ha (by rw[List.length_take,List.length_drop]; omega) hy x0 hx0)
    ·exact leavesF_trod d C fs b cs n hb hl (fun g hg=>hf g (List.mem_cons_of_mem _ hg)) x hx
   ·cases h
  ·cases h
end
theorem leaf_one {cs:List Value}{t:TypeId}{i:Nat}(h:LeafAt enc P w sp cs (t,i,1)):∃v n y,cs[i]?=some v∧DataW.trod enc P w 0 sp true n t [v]=some y:=by
 obtain⟨h1,n,y,h2⟩:=h
 have hi:i<cs.length:=by simp only at h1; omega
 refine⟨cs[i],n,y,List.getElem?_eq_getElem hi,?_⟩
 have:(cs.drop i).take 1=[cs[i]]:=by
  rw[List.drop_eq_getElem_cons hi]; rfl
 rwa [this]at h2
theorem leaf_int {cs:List Value}{t:TypeId}{i:Nat}{k:IntKind}(ht:P.underlying t=some (.int k)) (h:LeafAt enc P w sp cs (t,i,1)):∃n:Int,cs[i]?=some (.int k n)∧(Lit.int k n).wf=true:=by
 obtain⟨v,n,y,h1,h2⟩:=leaf_one h
 obtain⟨m,h3,_,h4⟩:=DataW.trod_int ht h2
 obtain rfl:v=.int k m:=by simpa using h3
 exact⟨m,h1,h4⟩
theorem leaf_str {cs:List Value}{t:TypeId}{i:Nat}(ht:P.underlying t=some .string) (h:LeafAt enc P w sp cs (t,i,1)):∃s:ByteArray,cs[i]?=some (.string s)∧s.size≤maxLen:=by
 obtain⟨v,n,y,h1,h2⟩:=leaf_one h
 obtain⟨m,h3,_,h4⟩:=DataW.trod_string ht h2
 obtain rfl:v=.string m:=by simpa using h3
 exact⟨m,h1,h4⟩
theorem cells_get {w:World}{a:Addr}{n:Nat}{cs:List Value}(h:w.cells? 0 a n=some cs):cs.length=n∧∀k v,cs[k]?=some v→w.cell? (a.add k)=some v:=by
 unfold World.cells? at h
 split at h
 ·have hl:cs.length=n:=by simpa using mapM_some_length h
  refine⟨hl,fun k v hv=>?_⟩
  have hk:k<n:=by have:=(List.getElem?_eq_some_iff.1 hv).1; omega
  have h1:=mapM_some_get h k
  rw[hv]at h1
  simpa[hk] using h1
 ·cases h
theorem open_rows {t e:TypeId}{v:Value}{d:DataW H}{ps:List MemPlace}{r:Reach}{b0:Nat}{l:List (TypeId×Nat×Nat)}{dep C:Nat}(ht:P.underlying t=some (.slice e)) (hl:leaves P dep e=some l) (hC:P.cellsOf e=C) (hval:Value.okWide P w r b0 t v) (hd:DataW.Trod enc P w 0 (fun _=>true) true t v d ps):
  ∃(p:Option Addr) (len c:Nat),v=.slice p len c∧(len≠0→∃a,p=some a)∧∀a,p=some a→∀j,j<len→∃cs:List Value,cs.length=C∧(∀k u,cs[k]?=some u→w.cell? ((a.add (j*C)).add k)=some u)∧∀x∈l,LeafAt enc P w (fun _=>true) cs x:=by
 subst hC
 obtain⟨a0,len,cap,rfl⟩:=okWide_slice ht hval
 obtain⟨fuel,hf⟩:=hd
 rcases DataW.trod_slice ht hf with⟨h0,_⟩|⟨a,len',cap',elems,rest,n,_,h0,_,hb,hle,hm,hlen,hel,_⟩
 ·have:a0=none∧len=0∧cap=0:=by simpa[Value.cells] using h0
  obtain⟨rfl,rfl,rfl⟩:=this
  exact⟨none,0,0,rfl,fun h=>absurd rfl h,(fun a ha=>by cases ha)⟩
 ·have:a0=some a∧len=len'∧cap=cap':=by simpa[Value.cells] using h0
  obtain⟨rfl,rfl,rfl⟩:=this
  refine⟨some a,len,cap,rfl,fun _=>⟨a,rfl⟩,fun a' ha' j hj=>?_⟩
  cases ha'
  have h1:=hel j hj
  rw[List.getElem?_eq_getElem (by omega)]at h1
  simp only[Option.bind_eq_some_iff]at h1
  obtain⟨cs,hcs,ht2⟩:=h1
  obtain⟨h2,h3⟩:=cells_get hcs
  exact⟨cs,h2,h3,leaves_trod dep e l cs n _ hl h2 ht2⟩
theorem list_choice {α:Type}{Q:Nat→α→Prop}:∀(n:Nat),(∀j,j<n→∃x,Q j x)→∃l:List α,l.length=n∧∀j x,l[j]?=some x→Q j x
 |0,_=>⟨[],rfl,fun j x h=>by simp at h⟩
 |n+1,h=>by
  obtain⟨l,hl,hq⟩:=list_choice n fun j hj=>h j (by omega)
  obtain⟨x,hx⟩:=h n (by omega)
  refine⟨l++[x],by simp[hl],fun j y hy=>?_⟩
  rcases Nat.lt_or_ge j l.length with hj|hj
  ·rw[List.getElem?_append_left hj]at hy; exact hq j y hy
  ·rw[List.getElem?_append_right hj]at hy
   have:j=n:=by have:=(List.getElem?_eq_some_iff.1 hy).1; simp at this; omega
   subst this
   rw[hl,Nat.sub_self]at hy
   obtain rfl:x=y:=by simpa using hy
   exact hx
end
end Go.Sh
end
section
namespace Go.Proofs.YtkknkmplmilihaaGreat
open Go.ChangeShapes Go.WideShapes Go.ChangeAt Go.RowKit Go.Sh
theorem u8_of {a:Int}(h:(Lit.int .u8 a).wf=true):0≤a∧a<256:=by
 simp[Lit.wf,IntKind.min,IntKind.max,IntKind.bits,IntKind.signed]at h
 omega
theorem rng64_of {a:Int}(h:(Lit.int .i64 a).wf=true):Rng64 a:=by
 simp[Lit.wf,IntKind.min,IntKind.max,IntKind.bits,IntKind.signed]at h
 unfold Rng64
 omega
def ChgAt (w:World) (p:Option Addr) (l:List RP):Prop:=partsAt w p l∧∀x∈l,RngC x
theorem chg_of {w:World}{p:Option Addr}{len:Nat}(hp:len≠0→∃a,p=some a) (key:∀j,j<len→∃x:RP,RngC x∧∀a,p=some a→∀(m:Nat) (v:Value),(rpC x)[m]?=some v→w.cell? ((a.add (j*3)).add m)=some v):∃l:List RP,l.length=len∧ChgAt w p l:=by
 obtain⟨l,hll,hq⟩:=list_choice len key
 refine⟨l,hll,⟨fun hn=>hp fun h0=>hn (List.eq_nil_of_length_eq_zero (by omega)),fun a ha j x hx m v hv=>(hq j x hx).2 a ha m v hv⟩,fun x hx=>?_⟩
 obtain⟨j,hj⟩:=List.mem_iff_getElem?.1 hx
 exact(hq j x hj).1
theorem open_changes {H:Type}{enc:TypeId×Value→H}{w:World}{v:Value}{d:DataW H}{ps:List MemPlace}{r:Reach}{b0:Nat}(hval:Value.okWide Tryz.prog w r b0 22 v) (hd:DataW.Trod enc Tryz.prog w 0 (fun _=>true) true 22 v d ps):
  ∃(p:Option Addr) (c:Nat) (l:List RP),v=.slice p l.length c∧ChgAt w p l:=by
 have hlv:leaves Tryz.prog 20 47=some [(3,0,1),(3,1,1),(9,2,1)]:=by kernel_rfl
 obtain⟨p,len,c,rfl,hp,hat⟩:=open_rows (e:=47) (by kernel_rfl) hlv (C:=3) (by kernel_rfl) hval hd
 obtain⟨l,hll,hC⟩:=chg_of (w:=w) (p:=p) (len:=len) hp fun j hj=>by
  cases hpa:p with
  |none=>exact⟨⟨0,0,[]⟩,⟨⟨by show(-9223372036854775808:Int)≤0; omega,by show(0:Int)≤9223372036854775807; omega⟩,⟨by show(-9223372036854775808:Int)≤0; omega,by show(0:Int)≤9223372036854775807; omega⟩⟩,fun a ha=>by cases ha⟩
  |some a=>
   obtain⟨cs,hl,hc,hx⟩:=hat a hpa j hj
   obtain⟨k,e0,w0⟩:=leaf_int (k:=.i64) (by kernel_rfl) (hx (3,0,1) (by simp))
   obtain⟨o,e1,w1⟩:=leaf_int (k:=.i64) (by kernel_rfl) (hx (3,1,1) (by simp))
   obtain⟨s,e2,_⟩:=leaf_str (by kernel_rfl) (hx (9,2,1) (by simp))
   refine⟨⟨k,o,s.data.toList⟩,⟨rng64_of w0,rng64_of w1⟩,fun a' ha'=>?_⟩
   cases ha'
   refine fun m v hv=>hc m v ?_
   have hm:m<3:=(Array.getElem?_eq_some_iff.1 hv).1
   match m,hm with
   |0,_=>exact e0.trans hv
   |1,_=>exact e1.trans hv
   |2,_=>
    refine Eq.trans ?_ hv
    rw[e2]
    show some (Value.string s)=some (Value.string (strB s.data.toList))
    rw[strB_list]
 exact⟨p,c,l,by rw[hll],hC⟩
end Go.Proofs.YtkknkmplmilihaaGreat
end
