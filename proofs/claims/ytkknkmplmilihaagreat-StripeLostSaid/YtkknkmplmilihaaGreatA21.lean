import Derived.Test.YtkknkmplmilihaaGreatA15
import Derived.Test.YtkknkmplmilihaaGreatA19
import Derived.Test.YtkknkmplmilihaaGreatA20
set_option linter.unusedSimpArgs false
set_option linter.unusedVariables false
set_option maxHeartbeats 2000000
set_option maxRecDepth 20000
section
namespace Go.Proofs.YtkknkmplmilihaaGreat
open Go.Sh Go.RowKit
theorem T.partsT {F:List Nat}{w0 w:World}{Γ:List A}{t:TypeId}{g:Option Nat}{n cap:Nat}{l:List RP}(hT:T F w0 w Γ) (hm:rowP t 3 g n cap (rpL l)∈Γ):partsAt w (ptr g) l:=by
 have hh:=hT.says hm
 have hn:l.length=n:=by have:=rowP.len hh; rw[rpL_len]at this; omega
 refine⟨fun hne=>?_,fun a ha j x hj m v hv=>?_⟩
 ·have:0<l.length:=List.length_pos_iff.2 hne
  obtain⟨b,rfl⟩:=rowP.pos hh (by omega)
  exact⟨_,rfl⟩
 ·cases g with
  |none=>cases ha
  |some b=>
   cases ha
   rw[addr_add,addr_add,Nat.zero_add]
   exact rowP.cell hh (rpL_get hj hv)
section
variable {s:RwS}{ds:List Od}{bu:List Int}{F:List Nat}{w0 w:World}{X:List A}{g:Kd}
theorem se_noneS {i:Nat}{K:World→Prop}{ad:Addr}(H:Ow (star (seK s ds bu) g) F w0 w X) (hp:s.pd=some ad) (hi:i<ds.length) (hK:∀w',Ow (star (seK s (ds.set i none) bu) g) F w0 w' X→K w'):St (ad.add (i*1)) (.pointer none) w K:=by
 obtain⟨Z,hZ,h1,hb⟩:=Ow.lend H
 exact se_none h1 hp hi fun w' h'=>hK w' (hb h')
theorem se_pd (H:Ow (star (seK s ds bu) g) F w0 w X):∃g1 g2:Nat,s.pd=some ⟨g1,0,none⟩∧s.pb=some ⟨g2,0,none⟩:=by
 obtain⟨g1,g2,h1,h2,_⟩:=se_open H.fst
 exact⟨g1,g2,h1,h2⟩
end
theorem MdS.nil {s:RwS}{ds:List Od}{bu:List Int}{N M:Nat}{K:Nat→Nat}{f:Nat→Nat→ByteArray}(h:MdS s ds bu N M K f) (hh:MdH ds N K f){i:Nat}(hi:i<ds.length):MdS s (ds.set i none) bu N M (fun j=>if j=i then 1 else K j) f∧MdH (ds.set i none) N (fun j=>if j=i then 1 else K j) f:=by
 have h1:=h.put hi (y:=none) (k:=1) (g:=f i) (.inr (.inl ⟨rfl,rfl⟩))
 have hf:(fun j=>if j=i then f i else f j)=f:=by
  funext j
  split
  ·rename_i e; rw[e]
  ·rfl
 rw[hf]at h1
 refine⟨h1,fun j hj k0=>?_⟩
 rw[List.length_set]at hj
 by_cases e:j=i
 ·have k0:(if j=i then 1 else K j)=0:=k0
  rw[if_pos e]at k0; omega
 ·have k0:(if j=i then 1 else K j)=0:=k0
  rw[if_neg e]at k0
  rw[List.getElem?_set,if_neg fun e2=>e e2.symm]
  exact hh j hj k0
theorem tm17 {x n:Int}(hx:0≤x∧x≤255) (hn:1≤n):∃i:Nat,Int.tmod (IntKind.i64.wrap x) n=(i:Int)∧(i:Int)<n:=by
 rw[wrap64 x (by omega) (by omega),Int.tmod_eq_emod_of_nonneg hx.1]
 have:=Int.emod_nonneg x (b:=n) (by omega)
 have:=Int.emod_lt_of_pos x (b:=n) (by omega)
 exact⟨(x%n).toNat,by omega,by omega⟩
theorem apS_nil {s:RwS}{ds:List Od}{bu:List Int}{a:AD}{S t n:Nat}{at_:Int}(hM:RMay s ds bu) (hat:0≤at_∧at_<s.r):apS s ds bu a S t n at_ []=(0,ds,a,n):=by
 have e:partsF s ds bu at_ []=.ok []:=by
  unfold partsF
  rw[if_neg (fun hh=>hh ⟨hM,by simp,by simp⟩),if_neg (by omega)]
  have:offsC s []=[]:=by unfold offsC; rw[List.filter_eq_nil_iff]; simp
  rw[this]; rfl
 unfold apS
 rw[e]
 rfl
theorem apS_lost {s:RwS}{ds:List Od}{bu:List Int}{N M:Nat}{K:Nat→Nat}{f:Nat→Nat→ByteArray}{c:Nat}{at_:Int}{l:List RP}(h:MdS s ds bu N M K f) (hK:∀i,i<ds.length→K i≠2) (hat:0≤at_∧at_<s.r) (hc:s.c=(c:Int)) (hG:∀off,0≤off∧off<s.k→GoodL (rwT s f at_ off c) 64) (h2:2<(misL (lostK s bu K at_) c).length)
  (hl:∀x∈l,(0≤x.col∧x.col<s.c-2)∧(0≤x.off∧x.off<s.k)∧x.data.length=64) (hn:(l.map fun x=>(x.off,x.col)).Nodup) (h0:l≠[]) (a:AD) (S t n:Nat):apS s ds bu a S t n at_ l=(60,ds,a,n):=by
 have hlen:=h.len
 have e:partsF s ds bu at_ l=.error 60:=by
  unfold partsF
  rw[if_neg (fun hh=>hh ⟨h.may,hl,hn⟩),if_neg (by omega)]
  obtain⟨x,l',rfl⟩:=List.exists_cons_of_ne_nil h0
  have hx:=hl x List.mem_cons_self
  have hm:x.off∈offsC s (x::l'):=offsC_mem.2 ⟨hx.2.1,x,List.mem_cons_self,rfl⟩
  cases ho:offsC s (x::l') with
  |nil=>rw[ho]at hm; cases hm
  |cons o os=>
   have hom:o∈offsC s (x::l'):=by rw[ho]; exact List.mem_cons_self
   have hob:=(offsC_mem.1 hom).1
   unfold partsG
   rw[filR_of h.may hat hob hc (rwT_len ..) (hG o hob) _ (h.secs hat hob hc fun i hi e=>absurd e (hK i (by omega))),if_neg (by omega)]
 unfold apS
 rw[e]
theorem lost17_law {a b n3 n4 n5:Int}(ha:0≤a∧a≤255) (hb:0≤b∧b≤255) (h3:0≤n3∧n3≤255) (h4:0≤n4∧n4≤255) (h5:0≤n5∧n5≤255){l:List RP}{p:Option Addr}{c0:Nat}{w:World}(hp:partsAt w p l) (hr:∀x∈l,RngC x):
  Ret Tryz.prog 5 #[.int .u8 a,.int .u8 b,.slice p l.length c0,.int .u8 n3,.int .u8 n4,.int .u8 n5] w (.bool true):=by
 refine ret_of (revetmentlaw17_StripeLost_calls ?_)
 unfold revetmentlaw17_StripeLost
 refine(weighs17_spec hp).mono fun e w1 ⟨he1,hx1⟩=>⟨_,he1,fun hh=>shown17_end hx1,fun hh=>?_⟩
 refine(shown17_spec w1).mono fun e w2 ⟨he2,hx2⟩=>⟨_,he2,no rfl ?_⟩
 obtain⟨hl30,hl100⟩:=weighsR_short hh
 refine setup17 (d:=1) ha hb (by omega) true (hx1.trans hx2) fun gc gk gr N s sr ds rs q u rj rk aj k1 k2 w3 e1 e2 e3 hN hrk hB H3=>?_
 obtain⟨ec,ek,er⟩:=hB.g
 have gb:(4≤gc∧gc≤7)∧(1≤gk∧gk≤3)∧gr=2:=by omega
 obtain⟨c,hc⟩:∃c:Nat,gc=(c:Int):=⟨gc.toNat,by omega⟩
 obtain⟨hM,hH,hl⟩:=hB.md (by unfold OkG; omega) hN
 have hcn:gc.toNat=c:=by omega
 rw[hcn]at hM hl H3
 generalize hP:pC s sr c q u (jO true rj) (jO true rk)=P at H3
 have P12:∀(i:Nat) (v:Value),(pC s sr c q u (some ⟨rj,0,none⟩) (some ⟨rk,0,none⟩))[i]?=some v→P[i]?=some v:=fun i v h=>by rw[←hP]; exact h
 have H3:Ow (star (seK s ds (List.replicate c gr)) (drK q aj)) [] w w3 [blk rj (rgC q 3 0 1) 128,blk k2 P 40,blk k1 #[.int .i64 gc,.int .i64 gk,.int .i64 gr] 26]:=by
  refine Ow.leave (Z:=[blk rk (krC u 0 1) 167]) (H3.fst.perm ?_)
  classical
  refine List.perm_iff_count.2 fun x=>?_
  simp only[List.count_append,List.count_cons,List.count_nil,Nat.zero_add,Nat.add_zero]
  ac_rfl
 have c1:∀{h:Kd} {w':World} {X:List A},Ow h [] w w' X→blk k1 #[.int .i64 gc,.int .i64 gk,.int .i64 gr] 26∈X→∀i v,(#[Value.int .i64 gc,.int .i64 gk,.int .i64 gr]:Array Value)[i]?=some v→w'.cell? ⟨k1,i,none⟩=some v:=fun h' hm i v hv=>h'.ld hm hv
 have c2:∀{h:Kd} {w':World} {X:List A},Ow h [] w w' X→blk k2 P 40∈X→∀i v,(pC s sr c q u (some ⟨rj,0,none⟩) (some ⟨rk,0,none⟩))[i]?=some v→w'.cell? ⟨k2,i,none⟩=some v:=fun h' hm i v hv=>h'.ld hm (P12 i v hv)
 obtain⟨x,hx,hxc⟩:=tm17 (n:=gc) h3 (by omega)
 obtain⟨y,hy,hyc⟩:=tm17 (n:=gc) h4 (by omega)
 obtain⟨z,hz,hzc⟩:=tm17 (n:=gc) h5 (by omega)
 obtain⟨g1,g2,hpd,-⟩:=se_pd H3
 have hlx:∀du:List Od,du.length=c→∀i:Nat,(i:Int)<gc→i<du.length:=fun du h i hi=>by omega
 have hlb:(List.replicate c gr).length=c:=List.length_replicate
 refine⟨fun w'=>∃(h:Kd) (X:List A),Ow h [] w w' X∧blk k2 P 40∈X∧blk k1 #[.int .i64 gc,.int .i64 gk,.int .i64 gr] 26∈X,⟨_,_,H3.drew,(by repeat constructor),(by repeat constructor)⟩,_,_,_,fun w' ⟨h,X,h',m2,m1⟩=>c2 h' m2 3 _ rfl,_,fun w' ⟨h,X,h',m2,m1⟩=>c1 h' m1 0 _ rfl,by omega,_,hpd,by rw[hx]; omega,by rw[hx]; omega,?_⟩
 rw[hx,Int.toNat_natCast]
 refine se_noneS H3.drew hpd (hlx _ hl x hxc) fun w4 H4=>?_
 obtain⟨hM1,hH1⟩:=hM.nil hH (hlx _ hl x hxc)
 have hl1:(ds.set x none).length=c:=by rw[List.length_set]; exact hl
 generalize ds.set x none=d1 at hM1 hH1 hl1 H4
 refine⟨fun w'=>∃(h:Kd) (X:List A),Ow h [] w w' X∧blk k2 P 40∈X∧blk k1 #[.int .i64 gc,.int .i64 gk,.int .i64 gr] 26∈X,⟨_,_,H4.drew,(by repeat constructor),(by repeat constructor)⟩,_,_,_,fun w' ⟨h,X,h',m2,m1⟩=>c2 h' m2 3 _ rfl,_,fun w' ⟨h,X,h',m2,m1⟩=>c1 h' m1 0 _ rfl,by omega,_,hpd,by rw[hy]; omega,by rw[hy]; omega,?_⟩
 rw[hy,Int.toNat_natCast]
 refine se_noneS H4.drew hpd (hlx _ hl1 y hyc) fun w5 H5=>?_
 obtain⟨hM2,hH2⟩:=hM1.nil hH1 (hlx _ hl1 y hyc)
 have hl2:(d1.set y none).length=c:=by rw[List.length_set]; exact hl1
 generalize d1.set y none=d2 at hM2 hH2 hl2 H5
 refine⟨fun w'=>∃(h:Kd) (X:List A),Ow h [] w w' X∧blk k2 P 40∈X∧blk k1 #[.int .i64 gc,.int .i64 gk,.int .i64 gr] 26∈X,⟨_,_,H5.drew,(by repeat constructor),(by repeat constructor)⟩,_,_,_,fun w' ⟨h,X,h',m2,m1⟩=>c2 h' m2 3 _ rfl,_,fun w' ⟨h,X,h',m2,m1⟩=>c1 h' m1 0 _ rfl,by omega,_,hpd,by rw[hz]; omega,by rw[hz]; omega,?_⟩
 rw[hz,Int.toNat_natCast]
 refine se_noneS H5.drew hpd (hlx _ hl2 z hzc) fun w6 H6=>?_
 obtain⟨hM3,hH3⟩:=hM2.nil hH2 (hlx _ hl2 z hzc)
 have hl3:(d2.set z none).length=c:=by rw[List.length_set]; exact hl2
 generalize d2.set z none=d3 at hM3 hH3 hl3 H6
 generalize hKe:(fun j=>if j=z then 1 else (fun j=>if j=y then 1 else (fun j=>if j=x then 1 else (fun _=>0) j) j) j)=K3 at hM3 hH3
 have hK3:∀j,(K3 j=1∧(j=x∨j=y∨j=z))∨(K3 j=0∧¬(j=x∨j=y∨j=z)):=fun j=>by
  rw[←hKe]
  show((if j=z then 1 else if j=y then 1 else if j=x then 1 else 0)=1∧_)∨((if j=z then 1 else if j=y then 1 else if j=x then 1 else 0)=0∧_)
  by_cases q1:j=z
  ·rw[if_pos q1]; exact .inl ⟨rfl,.inr (.inr q1)⟩
  ·rw[if_neg q1]
   by_cases q2:j=y
   ·rw[if_pos q2]; exact .inl ⟨rfl,.inr (.inl q2)⟩
   ·rw[if_neg q2]
    by_cases q3:j=x
    ·rw[if_pos q3]; exact .inl ⟨rfl,.inl q3⟩
    ·rw[if_neg q3]; exact .inr ⟨rfl,by simp[q1,q2,q3]⟩
 clear hKe hM2 hH2 hM1 hH1 hM hH H3 H4 H5
 have hok:=hM3.ok
 have hat:0≤(0:Int)∧(0:Int)<s.r:=by omega
 have hsc:s.c=(c:Int):=by omega
 refine⟨fun vs w'=>∃i:Nat,vs=[.int .i64 ((misL (fun j=>K3 j==1) i).length:Int),.int .i64 (i:Int)]∧i≤c∧Ow (star (seK s d3 (List.replicate c gr)) (drK q aj)) [] w w' [blk rj (rgC q 3 0 1) 128,blk k2 P 40,blk k1 #[.int .i64 gc,.int .i64 gk,.int .i64 gr] 26],fun vs _=>match vs with|[_,.int _ i]=>(gc-i).toNat|_=>0,⟨0,rfl,by omega,H6⟩,?_⟩
 clear H6
 rintro vs w7 ⟨i,rfl,hi,H7⟩
 refine⟨_,_,rfl,_,c1 H7 (by repeat constructor) 0 _ rfl,dec_t fun hlt=>?_,dec_f fun hge=>?_⟩
 ·have hid:i<d3.length:=by omega
  have hyi:d3[i]?=some d3[i]:=List.getElem?_eq_getElem hid
  obtain⟨ad,had,hcell⟩:=se_dcell H7.fst hyi
  have hwi:IntKind.i64.wrap ((i:Int)+1)=((i+1:Nat):Int):=by rw[wrap64 _ (by omega) (by omega)]; rfl
  have hme:(gc-IntKind.i64.wrap ((i:Int)+1)).toNat<(gc-(i:Int)).toNat:=by rw[wrap64 _ (by omega) (by omega)]; omega
  refine⟨_,_,_,c2 H7 (by repeat constructor) 3 _ rfl,ad,had,by omega,by omega,_,by rw[Int.toNat_natCast]; exact hcell,?_⟩
  have hco:=hM3.co i hid
  rcases hK3 i with⟨k1',-⟩|⟨k0',-⟩
  ·rcases hco with⟨k0,_⟩|⟨_,hk⟩|⟨k2',_⟩
   ·omega
   ·rw[hyi]at hk
    rw[Option.some.inj hk]
    refine yes rfl ⟨⟨i+1,?_,by omega,H7⟩,hme⟩
    have hle:=misL_le (fun j=>K3 j==1) i
    rw[misL_yes (by simp[k1']),List.length_append,hwi,wrap64 _ (by omega) (by omega)]; rfl
   ·omega
  ·rcases hco with⟨k0,pp,ax,hk,_⟩|⟨_,hk⟩|⟨k2',_⟩
   ·rw[hyi]at hk
    rw[Option.some.inj hk]
    refine no rfl ⟨⟨i+1,?_,by omega,H7⟩,hme⟩
    rw[misL_no (by simp[k0']),hwi]
   ·omega
   ·omega
 obtain rfl:i=c:=by omega
 refine⟨_,_,_,⟨c1 H7 (by repeat constructor) 0 _ rfl,c1 H7 (by repeat constructor) 1 _ rfl,c1 H7 (by repeat constructor) 2 _ rfl⟩,?_⟩
 refine(distinct17_spec (c:=gc) (k:=gk) (r:=gr) (by omega) (by omega) (hp.ext H7.ext) hr (by omega) (fun x hx=>by have:=hl100 x hx; omega)).mono fun e w8 ⟨g,cap,he8,hT8⟩=>⟨_,_,_,he8,?_⟩
 have H8:=(Ow.new H7 hT8).perm (Pick.perm (a:=blk rj (rgC q 3 0 1) 128) (by repeat constructor))
 have hD:=distR_ok (c:=gc) (k:=gk) (by omega) (by omega) (l:=l)
 have hDl:(distR gc gk l).length≤1000000:=by
  have:=dstF_len (l.map (normR gc gk))
  rw[List.length_map]at this
  unfold distR; omega
 generalize distR gc gk l=D at hD hDl H8
 refine⟨_,_,_,_,_,_,_,_,_,⟨c2 H8 (by repeat constructor) 0 _ rfl,c2 H8 (by repeat constructor) 1 _ rfl,c2 H8 (by repeat constructor) 2 _ rfl,c2 H8 (by repeat constructor) 3 _ rfl,c2 H8 (by repeat constructor) 4 _ rfl⟩,_,c2 H8 (by repeat constructor) 12 _ rfl,?_⟩
 have hA:=applyS_spec (at_:=0) (l:=D) (m:=D.length) (c:=cap) (p:=ptr g) (M:=0) (N:=0) H8 rfl (fun w' h'=>T.partsT h' (t:=47) (n:=D.length) (cap:=cap) (by repeat constructor)) (by omega) hDl hM3.few (by omega) (hB.ring.few 0) (by omega) (by decide) (by decide) (by decide)
 rw[hl3,hlb]at hA
 refine hA.mono fun e w9 ⟨he9,H9⟩=>⟨_,he9,?_⟩
 have c3:∀{h:Kd} {w':World} {X:List A},Ow h [] w w' X→blk k2 P 40∈X→∀i v,(pC s sr i q u (some ⟨rj,0,none⟩) (some ⟨rk,0,none⟩))[i]?=some v→True:=fun _ _ _ _ _=>trivial
 have hgood:∀off,0≤off∧off<s.k→GoodL (rwT s (fun _ _=>zeroSec) 0 off i) 64:=fun off ho=>zero_row s 0 off (by omega) (by omega)
 have hDs:∀x∈D,(0≤x.col∧x.col<s.c-2)∧(0≤x.off∧x.off<s.k)∧x.data.length=64:=fun x hx=>by have:=hD.1 x hx; omega
 have hK2:∀i,i<d3.length→K3 i≠2:=fun j _=>by rcases hK3 j with⟨k,_⟩|⟨k,_⟩<;>omega
 have hcr:=fun r:Nat=>colR_nat hok hat (role:=(r:Int))
 refine⟨beq_t fun hD0=>?_,beq_f fun hD0=>⟨dec_t fun h3n=>?_,dec_f fun h3n=>?_⟩⟩
 ·have:D=[]:=List.eq_nil_of_length_eq_zero (by omega)
  subst this
  rw[apS_nil hM3.may hat]
  exact⟨rfl,H9.ext⟩
 ·
  have hbB:∀j,j<i→(0:Int)<(List.replicate i gr).getD j 0:=fun j hj=>by rw[repl_getD hj]; omega
  have hinj:∀r r':Nat,r<i→r'<i→(colR s 0 r).toNat=(colR s 0 r').toNat→r=r':=fun r r' h1 h2 h=>by
   have q1:=hcr r (by omega)
   have q2:=hcr r' (by omega)
   have:=colR_inj hok hat (a:=(r:Int)) (b:=(r':Int)) (by omega) (by omega) (by omega)
   omega
  have hfew:(misL (lostK s (List.replicate i gr) K3 0) i).length≤2:=by
   have hmem:∀v,v=x∨v=y∨v=z→v<i→(v:Int)∈misL (fun j=>K3 j==1) i:=fun v hv hvi=>misL_mem.2 ⟨v,rfl,hvi,by rcases hK3 v with⟨k,_⟩|⟨_,k⟩; exact(by simp[k]); exact absurd hv k⟩
   have hpair:x=y∨x=z∨y=z:=by
    by_cases q1:x=y
    ·exact .inl q1
    by_cases q2:x=z
    ·exact .inr (.inl q2)
    by_cases q3:y=z
    ·exact .inr (.inr q3)
    have:=three_in (hmem x (.inl rfl) (by omega)) (hmem y (.inr (.inl rfl)) (by omega)) (hmem z (.inr (.inr rfl)) (by omega)) (by omega) (by omega) (by omega)
    omega
   have hin:∀r,r<i→lostK s (List.replicate i gr) K3 0 r=true→(colR s 0 r).toNat=x∨(colR s 0 r).toNat=y∨(colR s 0 r).toNat=z:=fun r hr hlk=>by
    have q1:=hcr r (by omega)
    rcases hK3 (colR s 0 r).toNat with⟨_,k⟩|⟨k,_⟩
    ·exact k
    ·rw[lostK_no (by omega) (hbB _ (by omega))]at hlk; cases hlk
   rcases hpair with e|e|e
   ·exact misL_most (S:=[x,z]) hinj fun r hr hlk=>by
     have:=hin r hr hlk; simp only[List.mem_cons,List.not_mem_nil,or_false]; omega
   ·exact misL_most (S:=[x,y]) hinj fun r hr hlk=>by
     have:=hin r hr hlk; simp only[List.mem_cons,List.not_mem_nil,or_false]; omega
   ·exact misL_most (S:=[x,y]) hinj fun r hr hlk=>by
     have:=hin r hr hlk; simp only[List.mem_cons,List.not_mem_nil,or_false]; omega
  have hgA:GoodA s d3 (List.replicate i gr) N 0 K3 (fun _ _=>zeroSec) 0 D i:=⟨hM3,hH3,hK2,hat,hsc,hgood,hfew,hDs,hD.2⟩
  obtain⟨p1,_⟩:=hgA.apS hB.ring (by decide)
  rw[show(0+1+([]:List (Int×List RP)).length)=1 from rfl]at p1
  rw[p1]
  exact⟨rfl,H9.ext⟩
 ·
  have hmost:∀S:List Nat,(∀v,K3 v=1→v∈S)→(misL (fun j=>K3 j==1) i).length≤S.length:=fun S hS=>misL_most (f:=fun j=>j) (fun _ _ _ _ h=>h) fun j _ hj=>hS j (by simpa using hj)
  have hap:x≠y∧x≠z∧y≠z:=by
   refine⟨fun e=>?_,fun e=>?_,fun e=>?_⟩
   ·have:=hmost [x,z] fun v hv=>by rcases hK3 v with⟨_,k⟩|⟨k,_⟩; simp only[List.mem_cons,List.not_mem_nil,or_false]; omega; omega
    simp at this; omega
   ·have:=hmost [x,y] fun v hv=>by rcases hK3 v with⟨_,k⟩|⟨k,_⟩; simp only[List.mem_cons,List.not_mem_nil,or_false]; omega; omega
    simp at this; omega
   ·have:=hmost [x,y] fun v hv=>by rcases hK3 v with⟨_,k⟩|⟨k,_⟩; simp only[List.mem_cons,List.not_mem_nil,or_false]; omega; omega
    simp at this; omega
  have hrole:∀v,(v=x∨v=y∨v=z)→v<i→∃r:Nat,(r:Int)∈misL (lostK s (List.replicate i gr) K3 0) i∧(colR s 0 r).toNat=v:=fun v hv hvi=>by
   obtain⟨r,hr,hrc,_⟩:=role_of hok hat hsc (g:=v) (by omega)
   refine⟨r,misL_mem.2 ⟨r,rfl,hr,lostK_yes ?_⟩,hrc⟩
   rw[hrc]
   rcases hK3 v with⟨k,_⟩|⟨_,k⟩
   ·exact k
   ·exact absurd hv k
  obtain⟨rx,mx,ex⟩:=hrole x (.inl rfl) (by omega)
  obtain⟨ry,my,ey⟩:=hrole y (.inr (.inl rfl)) (by omega)
  obtain⟨rz,mz,ez⟩:=hrole z (.inr (.inr rfl)) (by omega)
  have nxy:rx≠ry:=fun e=>hap.1 (by rw[←ex,←ey,e])
  have nxz:rx≠rz:=fun e=>hap.2.1 (by rw[←ex,←ez,e])
  have nyz:ry≠rz:=fun e=>hap.2.2 (by rw[←ey,←ez,e])
  have h3l:=three_in mx my mz (by omega) (by omega) (by omega)
  have hap2:=apS_lost hM3 hK2 hat hsc hgood (by omega) hDs hD.2 (fun e=>hD0 (by rw[e]; rfl)) aj 3 0 1
  rw[hap2]at H9⊢
  refine yes rfl ⟨_,c2 H9 (by repeat constructor) 12 _ rfl,?_⟩
  refine Ow.useSnd H9 fun Z hZ hb=>rleft_u (recs:=[]) (Ow.dr hZ) (by repeat constructor) hB.ring fun w10 h10=>⟨_,rfl,?_,?_⟩
  ·rfl
  ·exact(hb _ _ _ (Dr.ow h10)).ext
end Go.Proofs.YtkknkmplmilihaaGreat
end
section
namespace Go.Sh
open Go.ChangeShapes Go.WideShapes Go.ChangeAt Go.RowKit
mutual
def leaves (P:Program):Nat→TypeId→Option (List (TypeId×Nat×Nat))
 |0,_=>none
 |d+1,t=>match P.underlying t with
  |some (.struct fs)=>leavesF P d (P.cellsOf t) fs.toList
  |some (.array n e)=>if n≤12&&n*P.cellsOf e==P.cellsOf t then (leaves P d e).map fun l=>(List.range n).flatMap fun i=>l.map fun x=>(x.1,i*P.cellsOf e+x.2.1,x.2.2) else none
  |some _=>some [(t,0,P.cellsOf t)]
  |none=>none
def leavesF (P:Program):Nat→Nat→List Field→Option (List (TypeId×Nat×Nat))
 |_,_,[]=>some []
 |0,_,_=>none
 |d+1,C,f::fs=>if f.offset+P.cellsOf f.type≤C then match leaves P d f.type,leavesF P d C fs with
  |some a,some b=>some (a.map (fun x=>(x.1,f.offset+x.2.1,x.2.2))++b)
  |_,_=>none else none
end
section
variable {P:Program}{H:Type}{enc:TypeId×Value→H}{w:World}{sp:Nat→Bool}
def LeafAt (enc:TypeId×Value→H) (P:Program) (w:World) (sp:Nat→Bool) (cs:List Value) (x:TypeId×Nat×Nat):Prop:=x.2.1+x.2.2≤cs.length∧∃n y,DataW.trod enc P w 0 sp true n x.1 ((cs.drop x.2.1).take x.2.2)=some y
theorem LeafAt.sub {cs:List Value}{o n:Nat}{x:TypeId×Nat×Nat}(hn:o+n≤cs.length) (h:LeafAt enc P w sp ((cs.drop o).take n) x):LeafAt enc P w sp cs (x.1,o+x.2.1,x.2.2):=by
 obtain⟨h1,m,y,h2⟩:=h
 rw[List.length_take,List.length_drop]at h1
 refine⟨?_,m,y,?_⟩
 ·show o+x.2.1+x.2.2≤_; omega
 rw[List.drop_take,List.drop_drop,List.take_take]at h2
 show DataW.trod enc P w 0 sp true m x.1 ((cs.drop (o+x.2.1)).take x.2.2)=some y
 rwa [show min x.2.2 (n-x.2.1)=x.2.2 by omega]at h2
mutual
theorem leaves_trod:∀(d:Nat) (t:TypeId) (l:List (TypeId×Nat×Nat)) (cs:List Value) (n:Nat) (y:DataW H×List MemPlace),leaves P d t=some l→cs.length=P.cellsOf t→DataW.trod enc P w 0 sp true n t cs=some y→∀x∈l,LeafAt enc P w sp cs x
 |0,_,_,_,_,_,h,_,_=>by cases h
 |d+1,t,l,cs,n,y,h,hl,hd=>by
  unfold leaves at h
  split at h
  ·rename_i fs hu
   obtain⟨xs,m,_,_,_,hlen,hf⟩:=DataW.trod_struct hu hd
   exact leavesF_trod d (P.cellsOf t) fs.toList l cs m h hl fun f hm=>by
    obtain⟨i,hi⟩:=List.mem_iff_getElem?.1 hm
    have h1:=hf i f (by simpa using hi)
    have:i<xs.length:=by rw[hlen]; have:=(List.getElem?_eq_some_iff.1 hi).1; simpa using this
    rw[List.getElem?_eq_getElem this]at h1
    exact⟨_,h1⟩
  ·rename_i k e hu
   split at h
   ·rename_i hc
    simp only[Bool.and_eq_true,decide_eq_true_eq,beq_iff_eq]at hc
    simp only[Option.map_eq_some_iff]at h
    obtain⟨le,he,rfl⟩:=h
    obtain⟨xs,m,_,_,_,hlen,hf⟩:=DataW.trod_array hu hd
    intro x hx
    simp only[List.mem_flatMap,List.mem_range,List.mem_map]at hx
    obtain⟨i,hi,x0,hx0,rfl⟩:=hx
    have h1:=hf i hi
    rw[List.getElem?_eq_getElem (by omega)]at h1
    have hb:i*P.cellsOf e+P.cellsOf e≤cs.length:=by
     rw[hl,←hc.2]
     have:(i+1)*P.cellsOf e≤k*P.cellsOf e:=Nat.mul_le_mul_right _ hi
     rw[Nat.add_mul,Nat.one_mul]at this
     exact this
    exact LeafAt.sub hb (leaves_trod d e le _ m _ he (by rw[List.length_take,List.length_drop]; omega) h1 x0 hx0)
   ·cases h
  ·rename_i hu1 hu2 hu3
   cases h
   intro x hx
   obtain rfl:=List.mem_singleton.1 hx
   refine⟨by simp[hl],n,y,?_⟩
   rw[List.drop_zero,←hl,List.take_length]
   exact hd
  ·cases h
theorem leavesF_trod:∀(d C:Nat) (fs:List Field) (l:List (TypeId×Nat×Nat)) (cs:List Value) (n:Nat),leavesF P d C fs=some l→cs.length=C→(∀f∈fs,∃y,DataW.trod enc P w 0 sp true n f.type ((cs.drop f.offset).take (P.cellsOf f.type))=some y)→∀x∈l,LeafAt enc P w sp cs x
 |_,_,[],l,_,_,h,_,_=>by
  cases l with
  |nil=>intro x hx; cases hx
  |cons a l=>unfold leavesF at h; cases h
 |0,_,_::_,_,_,_,h,_,_=>by cases h
 |d+1,C,f::fs,l,cs,n,h,hl,hf=>by
  unfold leavesF at h
  split at h
  ·rename_i hc
   split at h
   ·rename_i a b ha hb
    cases h
    intro x hx
    rcases List.mem_append.1 hx with hx|hx
    ·obtain⟨x0,hx0,rfl⟩:=List.mem_map.1 hx
     obtain⟨y,hy⟩:=hf f List.mem_cons_self
     exact LeafAt.sub (by omega) (leaves_trod d f.type a _ n y ha (by rw[List.length_take,List.length_drop]; omega) hy x0 hx0)
    ·exact leavesF_trod d C fs b cs n hb hl (fun g hg=>hf g (List.mem_cons_of_mem _ hg)) x hx
   ·cases h
  ·cases h
end
theorem leaf_one {cs:List Value}{t:TypeId}{i:Nat}(h:LeafAt enc P w sp cs (t,i,1)):∃v n y,cs[i]?=some v∧DataW.trod enc P w 0 sp true n t [v]=some y:=by
 obtain⟨h1,n,y,h2⟩:=h
 have hi:i<cs.length:=by simp only at h1; omega
 refine⟨cs[i],n,y,List.getElem?_eq_getElem hi,?_⟩
 have:(cs.drop i).take 1=[cs[i]]:=by
  rw[List.drop_eq_getElem_cons hi]; rfl
 rwa [this]at h2
theorem leaf_int {cs:List Value}{t:TypeId}{i:Nat}{k:IntKind}(ht:P.underlying t=some (.int k)) (h:LeafAt enc P w sp cs (t,i,1)):∃n:Int,cs[i]?=some (.int k n)∧(Lit.int k n).wf=true:=by
 obtain⟨v,n,y,h1,h2⟩:=leaf_one h
 obtain⟨m,h3,_,h4⟩:=DataW.trod_int ht h2
 obtain rfl:v=.int k m:=by simpa using h3
 exact⟨m,h1,h4⟩
theorem leaf_str {cs:List Value}{t:TypeId}{i:Nat}(ht:P.underlying t=some .string) (h:LeafAt enc P w sp cs (t,i,1)):∃s:ByteArray,cs[i]?=some (.string s)∧s.size≤maxLen:=by
 obtain⟨v,n,y,h1,h2⟩:=leaf_one h
 obtain⟨m,h3,_,h4⟩:=DataW.trod_string ht h2
 obtain rfl:v=.string m:=by simpa using h3
 exact⟨m,h1,h4⟩
theorem cells_get {w:World}{a:Addr}{n:Nat}{cs:List Value}(h:w.cells? 0 a n=some cs):cs.length=n∧∀k v,cs[k]?=some v→w.cell? (a.add k)=some v:=by
 unfold World.cells? at h
 split at h
 ·have hl:cs.length=n:=by simpa using mapM_some_length h
  refine⟨hl,fun k v hv=>?_⟩
  have hk:k<n:=by have:=(List.getElem?_eq_some_iff.1 hv).1; omega
  have h1:=mapM_some_get h k
  rw[hv]at h1
  simpa[hk] using h1
 ·cases h
theorem open_rows {t e:TypeId}{v:Value}{d:DataW H}{ps:List MemPlace}{r:Reach}{b0:Nat}{l:List (TypeId×Nat×Nat)}{dep C:Nat}(ht:P.underlying t=some (.slice e)) (hl:leaves P dep e=some l) (hC:P.cellsOf e=C) (hval:Value.okWide P w r b0 t v) (hd:DataW.Trod enc P w 0 (fun _=>true) true t v d ps):
  ∃(p:Option Addr) (len c:Nat),v=.slice p len c∧(len≠0→∃a,p=some a)∧∀a,p=some a→∀j,j<len→∃cs:List Value,cs.length=C∧(∀k u,cs[k]?=some u→w.cell? ((a.add (j*C)).add k)=some u)∧∀x∈l,LeafAt enc P w (fun _=>true) cs x:=by
 subst hC
 obtain⟨a0,len,cap,rfl⟩:=okWide_slice ht hval
 obtain⟨fuel,hf⟩:=hd
 rcases DataW.trod_slice ht hf with⟨h0,_⟩|⟨a,len',cap',elems,rest,n,_,h0,_,hb,hle,hm,hlen,hel,_⟩
 ·have:a0=none∧len=0∧cap=0:=by simpa[Value.cells] using h0
  obtain⟨rfl,rfl,rfl⟩:=this
  exact⟨none,0,0,rfl,fun h=>absurd rfl h,(fun a ha=>by cases ha)⟩
 ·have:a0=some a∧len=len'∧cap=cap':=by simpa[Value.cells] using h0
  obtain⟨rfl,rfl,rfl⟩:=this
  refine⟨some a,len,cap,rfl,fun _=>⟨a,rfl⟩,fun a' ha' j hj=>?_⟩
  cases ha'
  have h1:=hel j hj
  rw[List.getElem?_eq_getElem (by omega)]at h1
  simp only[Option.bind_eq_some_iff]at h1
  obtain⟨cs,hcs,ht2⟩:=h1
  obtain⟨h2,h3⟩:=cells_get hcs
  exact⟨cs,h2,h3,leaves_trod dep e l cs n _ hl h2 ht2⟩
theorem list_choice {α:Type}{Q:Nat→α→Prop}:∀(n:Nat),(∀j,j<n→∃x,Q j x)→∃l:List α,l.length=n∧∀j x,l[j]?=some x→Q j x
 |0,_=>⟨[],rfl,fun j x h=>by simp at h⟩
 |n+1,h=>by
  obtain⟨l,hl,hq⟩:=list_choice n fun j hj=>h j (by omega)
  obtain⟨x,hx⟩:=h n (by omega)
  refine⟨l++[x],by simp[hl],fun j y hy=>?_⟩
  rcases Nat.lt_or_ge j l.length with hj|hj
  ·rw[List.getElem?_append_left hj]at hy; exact hq j y hy
  ·rw[List.getElem?_append_right hj]at hy
   have:j=n:=by have:=(List.getElem?_eq_some_iff.1 hy).1; simp at this; omega
   subst this
   rw[hl,Nat.sub_self]at hy
   obtain rfl:x=y:=by simpa using hy
   exact hx
end
end Go.Sh
end
section
namespace Go.Proofs.YtkknkmplmilihaaGreat
open Go.ChangeShapes Go.WideShapes Go.ChangeAt Go.RowKit Go.Sh
theorem u8_of {a:Int}(h:(Lit.int .u8 a).wf=true):0≤a∧a<256:=by
 simp[Lit.wf,IntKind.min,IntKind.max,IntKind.bits,IntKind.signed]at h
 omega
theorem rng64_of {a:Int}(h:(Lit.int .i64 a).wf=true):Rng64 a:=by
 simp[Lit.wf,IntKind.min,IntKind.max,IntKind.bits,IntKind.signed]at h
 unfold Rng64
 omega
def ChgAt (w:World) (p:Option Addr) (l:List RP):Prop:=partsAt w p l∧∀x∈l,RngC x
theorem chg_of {w:World}{p:Option Addr}{len:Nat}(hp:len≠0→∃a,p=some a) (key:∀j,j<len→∃x:RP,RngC x∧∀a,p=some a→∀(m:Nat) (v:Value),(rpC x)[m]?=some v→w.cell? ((a.add (j*3)).add m)=some v):∃l:List RP,l.length=len∧ChgAt w p l:=by
 obtain⟨l,hll,hq⟩:=list_choice len key
 refine⟨l,hll,⟨fun hn=>hp fun h0=>hn (List.eq_nil_of_length_eq_zero (by omega)),fun a ha j x hx m v hv=>(hq j x hx).2 a ha m v hv⟩,fun x hx=>?_⟩
 obtain⟨j,hj⟩:=List.mem_iff_getElem?.1 hx
 exact(hq j x hj).1
theorem open_changes {H:Type}{enc:TypeId×Value→H}{w:World}{v:Value}{d:DataW H}{ps:List MemPlace}{r:Reach}{b0:Nat}(hval:Value.okWide Tryz.prog w r b0 22 v) (hd:DataW.Trod enc Tryz.prog w 0 (fun _=>true) true 22 v d ps):
  ∃(p:Option Addr) (c:Nat) (l:List RP),v=.slice p l.length c∧ChgAt w p l:=by
 have hlv:leaves Tryz.prog 20 47=some [(3,0,1),(3,1,1),(9,2,1)]:=by kernel_rfl
 obtain⟨p,len,c,rfl,hp,hat⟩:=open_rows (e:=47) (by kernel_rfl) hlv (C:=3) (by kernel_rfl) hval hd
 obtain⟨l,hll,hC⟩:=chg_of (w:=w) (p:=p) (len:=len) hp fun j hj=>by
  cases hpa:p with
  |none=>exact⟨⟨0,0,[]⟩,⟨⟨by show(-9223372036854775808:Int)≤0; omega,by show(0:Int)≤9223372036854775807; omega⟩,⟨by show(-9223372036854775808:Int)≤0; omega,by show(0:Int)≤9223372036854775807; omega⟩⟩,fun a ha=>by cases ha⟩
  |some a=>
   obtain⟨cs,hl,hc,hx⟩:=hat a hpa j hj
   obtain⟨k,e0,w0⟩:=leaf_int (k:=.i64) (by kernel_rfl) (hx (3,0,1) (by simp))
   obtain⟨o,e1,w1⟩:=leaf_int (k:=.i64) (by kernel_rfl) (hx (3,1,1) (by simp))
   obtain⟨s,e2,_⟩:=leaf_str (by kernel_rfl) (hx (9,2,1) (by simp))
   refine⟨⟨k,o,s.data.toList⟩,⟨rng64_of w0,rng64_of w1⟩,fun a' ha'=>?_⟩
   cases ha'
   refine fun m v hv=>hc m v ?_
   have hm:m<3:=(Array.getElem?_eq_some_iff.1 hv).1
   match m,hm with
   |0,_=>exact e0.trans hv
   |1,_=>exact e1.trans hv
   |2,_=>
    refine Eq.trans ?_ hv
    rw[e2]
    show some (Value.string s)=some (Value.string (strB s.data.toList))
    rw[strB_list]
 exact⟨p,c,l,by rw[hll],hC⟩
end Go.Proofs.YtkknkmplmilihaaGreat
end
