import Derived.Laws.StructEq
import Derived.Test.YtkknkmplmilihaaGreatD2
import Derived.Test.YtkknkmplmilihaaGreatD6
import Derived.Test.YtkknkmplmilihaaGreatD8
import Derived.Test.YtkknkmplmilihaaGreatD10
import Derived.Test.YtkknkmplmilihaaGreatD12
import Derived.Test.YtkknkmplmilihaaGreatD15
import Derived.Test.YtkknkmplmilihaaGreatD16
set_option linter.unusedSimpArgs false
set_option linter.unusedVariables false
set_option maxHeartbeats 2000000
set_option maxRecDepth 20000
section
namespace Go.Proofs.YtkknkmplmilihaaGreat
open Go.Sh Go.RowKit
theorem wrong_spec {s:RwS}{w:World}{k1:Nat}(hk:w.cell? ⟨k1,0,none⟩=some (.int .i64 s.c)∧w.cell? (Addr.add ⟨k1,0,none⟩ 1)=some (.int .i64 s.k)) (x:RP):
  Calls Tp 63 #[.agg (rpC x),.pointer (some ⟨k1,0,none⟩)] w fun e w'=>e=.returned (.bool (wrongP s x))∧Ext w w':=by
 refine rq (stripe_Put_1_calls ?_)
 unfold stripe_Put_1
 have bad:∀{w':World},Ext w w'→(x.col<0∨x.col≥s.c∨x.off<0∨x.off≥s.k∨x.data.length≠64)→Value.bool true=.bool (wrongP s x)∧Ext w w':=fun hx hh=>⟨by unfold wrongP; rw[decide_eq_true hh],hx⟩
 refine Alloc.t (T.nil w) fun k2 w1 h1=>?_
 have h1:T [] w w1 [blk k2 (rpC x) 64]:=h1
 have c2:∀i v,(rpC x)[i]?=some v→w1.cell? ⟨k2,i,none⟩=some v:=fun i v hv=>h1.ld List.mem_cons_self hv
 have hx:=h1.chg.ext
 refine⟨_,c2 0 _ rfl,dec_t fun hb=>bad hx (by omega),dec_f fun hb0=>⟨_,c2 0 _ rfl,_,cell_ext hx hk.1,dec_t fun hb=>bad hx (by omega),dec_f fun hb1=>⟨_,c2 1 _ rfl,dec_t fun hb=>bad hx (by omega),dec_f fun hb2=>⟨_,c2 1 _ rfl,_,cell_ext hx hk.2,dec_t fun hb=>bad hx (by omega),dec_f fun hb3=>⟨_,c2 2 _ rfl,?_,hx⟩⟩⟩⟩⟩
 unfold wrongP
 rw[strB_size]
 congr 1
 rw[Bool.eq_iff_iff,bne_iff_ne,decide_eq_true_eq]
 omega
theorem indexP_spec {s:RwS}{w:World}{k1 c:Nat}{p:Option Addr}{l:List RP}(hp:partsAt w p l) (hl:l.length≤1000000) (hk:w.cell? ⟨k1,0,none⟩=some (.int .i64 s.c)∧w.cell? (Addr.add ⟨k1,0,none⟩ 1)=some (.int .i64 s.k)):
  Calls Tp 137 #[.slice p l.length c,.func (.func 63) #[] #[.pointer (some ⟨k1,0,none⟩)]] w fun e w'=>∃j:Int,e=.returned (.int .i64 j)∧Ext w w'∧decide (j≥0)=l.any (wrongP s):=by
 refine(slices_IndexFunc_record_Part_record_Part_calls (R:=fun v w'=>∃j:Int,v=.int .i64 j∧Ext w w'∧decide (j≥0)=l.any (wrongP s)) ?_).mono fun e w' ⟨v,he,j,hv,hx⟩=>⟨j,by rw[he,hv],hx⟩
 unfold slices_IndexFunc_record_Part_record_Part
 refine⟨fun vs w'=>∃i:Nat,vs=[.int .i64 (i:Int)]∧i≤l.length∧Ext w w'∧(l.take i).any (wrongP s)=false,fun vs _=>match vs with|[.int _ i]=>(l.length-i).toNat|_=>0,⟨0,rfl,by omega,.refl w,rfl⟩,?_⟩
 rintro vs w1 ⟨i,rfl,hi,hx1,hs⟩
 refine⟨_,rfl,dec_t fun hlt=>?_,dec_f fun hge=>?_⟩
 ·have hlt:i<l.length:=by omega
  have hnext:(l.take (i+1)).any (wrongP s)=wrongP s l[i]:=by rw[List.take_add_one,List.getElem?_eq_getElem hlt,List.any_append,hs]; simp
  have hmem:l[i]∈l:=List.getElem_mem hlt
  obtain⟨a,ha,q0,q1,q2⟩:=(hp.ext hx1).get hlt
  generalize l[i]=x at hnext hmem q0 q1 q2
  refine⟨a,ha,by omega,by omega,x.col,x.off,strB x.data,⟨by rw[Int.toNat_natCast]; exact q0,by rw[Int.toNat_natCast]; exact q1,by rw[Int.toNat_natCast]; exact q2⟩,?_⟩
  refine CallF.func (by kernel_rfl) ((wrong_spec ⟨cell_ext hx1 hk.1,cell_ext hx1 hk.2⟩ x).mono fun e w2 ⟨he2,hx2⟩=>⟨_,he2,fun hb=>?_,fun hb=>⟨⟨i+1,?_,by omega,hx1.trans hx2,?_⟩,?_⟩⟩)
  ·exact⟨_,rfl,hx1.trans hx2,by rw[List.any_eq_true.2 ⟨x,hmem,hb⟩]; exact decide_eq_true (by omega)⟩
  ·rw[wrap64 _ (by omega) (by omega)]; rfl
  ·rw[hnext]; exact hb
  ·show((l.length:Int)-IntKind.i64.wrap ((i:Int)+1)).toNat<((l.length:Int)-(i:Int)).toNat
   rw[wrap64 _ (by omega) (by omega)]; omega
 ·have hie:i=l.length:=by omega
  subst hie
  rw[List.take_length]at hs
  exact⟨_,rfl,hx1,by rw[hs]; decide⟩
theorem thereO_some {ds:List Od}{i p:Nat}{a:AD}(h:thereO ds i=some (p,a)):ds[i]?=some (some (p,a))∧a.dead=false:=thereO_get h
theorem put17_spec {s:RwS}{ds:List Od}{bu:List Int}{F:List Nat}{w0 w:World}{X:List A}(H:Ow (seK s ds bu) F w0 w X){p:Option Addr}{c n:Nat}{l:List RP}(hn:n=l.length) (hp:∀w',T F w0 w' X→partsAt w' p l) (hl:ds.length≤1000000) (hll:l.length≤100000){M:Nat}(hF:FewL ds M) (hM:M+l.length≤1000000) (at_:Int):
  Calls Tp 27 #[.agg (rwC s ds.length bu.length),.int .i64 at_,.slice p n c] w fun e w'=>e=.returned (.int .i64 (putF s ds bu at_ l).1)∧Ow (seK s (putF s ds bu at_ l).2 bu) F w0 w' X:=by
 subst hn
 refine rq (stripe_Put_calls ?_)
 unfold stripe_Put
 have hR:∀(r:Int×List Od) w',putF s ds bu at_ l=r→Ow (seK s r.2 bu) F w0 w' X→(fun v w'=>v=Value.int .i64 (putF s ds bu at_ l).1∧Ow (seK s (putF s ds bu at_ l).2 bu) F w0 w' X) (.int .i64 r.1) w':=fun r w' e h=>by rw[e]; exact⟨rfl,h⟩
 generalize (fun v w'=>v=Value.int .i64 (putF s ds bu at_ l).1∧Ow (seK s (putF s ds bu at_ l).2 bu) F w0 w' X)=R at hR⊢
 refine H.alloc fun k3 w1 H1=>?_
 have H1:Ow (seK s ds bu) F w0 w1 (blk k3 (rwC s ds.length bu.length) 31::X):=H1
 have c3:∀{h:Kd} {w':World} {Z:List A},Ow h F w0 w' (Z++blk k3 (rwC s ds.length bu.length) 31::X)→∀i v,(rwC s ds.length bu.length)[i]?=some v→w'.cell? ⟨k3,i,none⟩=some v:=fun h' i v hv=>h'.ld (List.mem_append_right _ List.mem_cons_self) hv
 have c3':∀{h:Kd} {w':World},Ow h F w0 w' (blk k3 (rwC s ds.length bu.length) 31::X)→∀i v,(rwC s ds.length bu.length)[i]?=some v→w'.cell? ⟨k3,i,none⟩=some v:=fun h' i v hv=>h'.ld List.mem_cons_self hv
 have hpX:∀{h:Kd} {w':World} {Z:List A},Ow h F w0 w' (Z++blk k3 (rwC s ds.length bu.length) 31::X)→partsAt w' p l:=fun {h w' Z} h'=>by
  have h2:Ow h F w0 w' ((Z++[blk k3 (rwC s ds.length bu.length) 31])++X):=by rw[List.append_assoc]; exact h'
  exact hp w' (T.leave (h2.perm List.perm_append_comm).under)
 refine⟨_,_,_,_,_,_,_,_,_,⟨c3' H1 0 _ rfl,c3' H1 1 _ rfl,c3' H1 2 _ rfl,c3' H1 3 _ rfl,c3' H1 4 _ rfl⟩,?_⟩
 refine(may16_spec (se_w H1) hl).mono fun e w2 ⟨he2,hx2⟩=>⟨_,he2,?_⟩
 have H2:=H1.quiet hx2
 by_cases hMy:RMay s ds bu
 rotate_left
 ·rw[decide_eq_false hMy]
  exact yes rfl (hR (1,ds) _ (by unfold putF; rw[if_pos (.inl hMy)]) H2.dropX)
 rw[decide_eq_true hMy]
 refine no rfl ?_
 have hix:Calls Tp 65 #[.slice p l.length c,.func (.func 63) #[] #[.pointer (some ⟨k3,0,none⟩)]] w2 fun e w'=>e=.returned (.bool (l.any (wrongP s)))∧Ext w2 w':=by
  refine(slices_ContainsFunc_record_Part_record_Part_calls (R:=fun v w'=>v=.bool (l.any (wrongP s))∧Ext w2 w') ?_).mono fun e w3 ⟨v,he3,hv3,hx3⟩=>⟨by rw[he3,hv3],hx3⟩
  unfold slices_ContainsFunc_record_Part_record_Part
  exact(indexP_spec (hpX (Z:=[]) H2) (by omega) ⟨c3' H2 0 _ rfl,by rw[addr_add]; exact c3' H2 1 _ rfl⟩).mono fun e w3 ⟨j,he3,hx3,hj⟩=>⟨_,he3,by rw[hj],hx3⟩
 refine hix.mono fun e w3 ⟨he3,hx3⟩=>⟨_,he3,fun hb=>?_,fun hb=>?_⟩
 ·exact hR (1,ds) _ (by unfold putF; rw[if_pos (.inr hb)]) (H2.quiet hx3).dropX
 have H3:=H2.quiet hx3
 have hpf:putF s ds bu at_ l=if at_<0∨at_≥s.r then (70,ds) else
  if (putW s at_ l ds).1=42 then (42,(putW s at_ l ds).2) else (if RMay s (putW s at_ l ds).2 bu then (if (putW s at_ l ds).2.any offO then 42 else 0) else 1,if RMay s (putW s at_ l ds).2 bu then (putW s at_ l ds).2.map flushO else (putW s at_ l ds).2):=by
  unfold putF
  rw[if_neg]
  rintro(hh|hh)
  ·exact hh hMy
  ·rw[hb]at hh; cases hh
 refine⟨dec_t fun hb0=>hR (70,ds) _ (by rw[hpf,if_pos (.inl hb0)]) H3.dropX,dec_f fun hb0=>⟨_,c3' H3 2 _ rfl,dec_t fun hb1=>hR (70,ds) _ (by rw[hpf,if_pos (.inr hb1)]) H3.dropX,dec_f fun hb1=>?_⟩⟩
 rw[if_neg (by omega)]at hpf
 have hwr:∀x∈l,0≤x.col∧x.col<s.c∧0≤x.off∧x.off<s.k∧x.data.length=64:=fun x hx=>by
  have h1:=List.any_eq_false.1 hb x hx
  have h2:¬(x.col<0∨x.col≥s.c∨x.off<0∨x.off≥s.k∨x.data.length≠64):=fun hh=>h1 (decide_eq_true hh)
  omega
 have hdl:=hMy.2.1
 refine⟨fun vs w'=>∃(j:Nat) (ds1:List Od),vs=[.int .i64 (j:Int)]∧j≤l.length∧putW s at_ l ds=putW s at_ (l.drop j) ds1∧blks ds1=blks ds∧FewL ds1 (M+j)∧Ow (seK s ds1 bu) F w0 w' (blk k3 (rwC s ds.length bu.length) 31::X),fun vs _=>match vs with|[.int _ j]=>(l.length-j).toNat|_=>0,⟨0,ds,rfl,by omega,rfl,rfl,hF.mono (by omega),H3⟩,?_⟩
 rintro vs w4 ⟨j,ds1,rfl,hj,hpw,hbl,hF1,H4⟩
 have hl1:ds1.length=ds.length:=by have:=congrArg List.length hbl; rwa [blks_len,blks_len]at this
 have hmeas:((l.length:Int)-IntKind.i64.wrap ((j:Int)+1)).toNat<((l.length:Int)-(j:Int)).toNat∨j=l.length:=by
  by_cases e:j=l.length
  ·exact .inr e
  ·refine .inl ?_
   rw[wrap64 _ (by omega) (by omega)]; omega
 refine⟨_,rfl,dec_t fun hlt=>?_,dec_f fun hge=>?_⟩
 ·have hlt:j<l.length:=by omega
  have hmeas:((l.length:Int)-IntKind.i64.wrap ((j:Int)+1)).toNat<((l.length:Int)-(j:Int)).toNat:=by
   rcases hmeas with hm|hm
   ·exact hm
   ·omega
  have hwi:IntKind.i64.wrap ((j:Int)+1)=((j+1:Nat):Int):=by rw[wrap64 _ (by omega) (by omega)]; rfl
  obtain⟨a,ha,q0,q1,q2⟩:=(hpX (Z:=[]) H4).get hlt
  have hxw:=hwr _ (List.getElem_mem hlt)
  rw[List.drop_eq_getElem_cons hlt]at hpw
  generalize l[j]=x at q0 q1 q2 hxw hpw
  refine⟨a,ha,by omega,by omega,x.col,x.off,strB x.data,⟨by rw[Int.toNat_natCast]; exact q0,by rw[Int.toNat_natCast]; exact q1,by rw[Int.toNat_natCast]; exact q2⟩,?_⟩
  refine H4.alloc fun k9 w5 H5=>?_
  refine H5.st (c':=#[.int .i64 x.col,.int .i64 0,.string (ByteArray.mk #[])]) .head (show 0<3 by decide) rfl rfl fun w6 H6=>H6.st (c':=#[.int .i64 x.col,.int .i64 x.off,.string (ByteArray.mk #[])]) .head (show 1<3 by decide) rfl rfl fun w7 H7=>H7.st (c':=rpC x) .head (show 2<3 by decide) rfl rfl fun w8 H8=>?_
  have c9:∀{h:Kd} {w':World},Ow h F w0 w' (blk k9 (rpC x) 64::blk k3 (rwC s ds.length bu.length) 31::X)→∀i v,(rpC x)[i]?=some v→w'.cell? ⟨k9,i,none⟩=some v:=fun h' i v hv=>h'.ld List.mem_cons_self hv
  have c3'':∀{h:Kd} {w':World},Ow h F w0 w' (blk k9 (rpC x) 64::blk k3 (rwC s ds.length bu.length) 31::X)→∀i v,(rwC s ds.length bu.length)[i]?=some v→w'.cell? ⟨k3,i,none⟩=some v:=fun h' i v hv=>h'.ld (List.mem_cons_of_mem _ List.mem_cons_self) hv
  clear H5 H6 H7
  refine⟨fun w'=>∃ds',blks ds'=blks ds1∧Ow (seK s ds' bu) F w0 w' (blk k9 (rpC x) 64::blk k3 (rwC s ds.length bu.length) 31::X),⟨ds1,rfl,H8.drew⟩,_,_,_,_,_,_,_,_,_,fun w' ⟨_,_,h'⟩=>⟨c3'' h' 0 _ rfl,c3'' h' 1 _ rfl,c3'' h' 2 _ rfl,c3'' h' 3 _ rfl,c3'' h' 4 _ rfl⟩,_,fun w' ⟨_,_,h'⟩=>c9 h' 0 _ rfl,?_⟩
  have hth:=there17_spec (s:=s) (se_w H8.drew) (col:=x.col) (by omega) (m:=bu.length)
  rw[hl1]at hth
  refine hth.mono fun e w9 ⟨he9,hx9⟩=>⟨_,he9,⟨ds1,rfl,H8.drew.quiet hx9⟩,fun ht=>?_,fun ht=>?_⟩
  ·have H9:=H8.drew.quiet hx9
   obtain⟨y,hy⟩:=Option.isSome_iff_exists.1 ht
   obtain⟨pp,ad⟩:=y
   obtain⟨hk,hdd⟩:=thereO_some hy
   have hpw2:putW s at_ l ds=if ad.put (sectorG s.c s.k s.r at_ x.off) (strB x.data)=42 then (42,ds1.set x.col.toNat (some (pp,ad.write (sectorG s.c s.k s.r at_ x.off) (strB x.data)))) else putW s at_ (l.drop (j+1)) (ds1.set x.col.toNat (some (pp,ad.write (sectorG s.c s.k s.r at_ x.off) (strB x.data)))):=by
    rw[hpw]
    conv=>lhs; unfold putW
    rw[hy]
   obtain⟨a0,ha0,_⟩:=se_dcell H9 hk
   refine⟨_,_,_,fun w' ⟨_,_,h'⟩=>c3'' h' 3 _ rfl,_,fun w' ⟨_,_,h'⟩=>c9 h' 0 _ rfl,a0,ha0,by omega,by omega,some ⟨pp,0,none⟩,fun w' ⟨ds',hb',h'⟩=>?_,_,_,_,fun w' ⟨_,_,h'⟩=>⟨c3'' h' 0 _ rfl,c3'' h' 1 _ rfl,c3'' h' 2 _ rfl⟩,_,fun w' ⟨_,_,h'⟩=>c9 h' 1 _ rfl,?_⟩
   ·have hg:=blks_get hk
    rw[←hb']at hg
    obtain⟨a1,ha1,hc1⟩:=(se_w h').pd.get hg
    rw[ha0]at ha1
    cases ha1
    exact hc1
   refine(sector_spec s.c s.k s.r at_ x.off w9).mono fun e w10 ⟨he10,hx10⟩=>⟨_,he10,⟨ds1,rfl,H9.quiet hx10⟩,_,fun w' ⟨_,_,h'⟩=>c9 h' 2 _ rfl,?_⟩
   have H10:=H9.quiet hx10
   refine(se_on H10 hk (b:=ad.write (sectorG s.c s.k s.r at_ x.off) (strB x.data)) fun Z hZ=>write_a hZ ((hF1 pp ad (List.mem_of_getElem? hk)).mono (by omega)) (sectorG s.c s.k s.r at_ x.off) (strB x.data)).mono fun e w11 ⟨he11,H11⟩=>⟨_,he11,⟨_,blks_set hk,H11⟩,beq_t fun h42=>?_,beq_f fun h42=>?_⟩
   ·rw[if_pos h42]at hpw2
    refine hR (42,ds1.set x.col.toNat (some (pp,ad.write (sectorG s.c s.k s.r at_ x.off) (strB x.data)))) _ ?_ H11.dropX.dropX
    rw[hpf,hpw2,if_pos rfl]
   ·rw[if_neg h42]at hpw2
    exact⟨⟨j+1,_,by rw[hwi],hlt,hpw2,(blks_set hk).trans hbl,((hF1.mono (by omega)).set (((hF1 pp ad (List.mem_of_getElem? hk)).write _ _).mono (by omega))),H11.dropX⟩,hmeas⟩
  ·have hy:thereO ds1 x.col.toNat=none:=Option.isSome_eq_false_iff.1 ht |> Option.isNone_iff_eq_none.1
   have hpw2:putW s at_ l ds=putW s at_ (l.drop (j+1)) ds1:=by
    rw[hpw]
    conv=>lhs; unfold putW
    rw[hy]
   exact⟨⟨j+1,ds1,by rw[hwi],hlt,hpw2,hbl,hF1.mono (by omega),(H8.drew.quiet hx9).dropX⟩,hmeas⟩
 ·obtain rfl:j=l.length:=by omega
  rw[List.drop_length]at hpw
  have hpw:putW s at_ l ds=(0,ds1):=hpw
  refine⟨_,_,_,_,_,_,_,_,_,⟨c3' H4 0 _ rfl,c3' H4 1 _ rfl,c3' H4 2 _ rfl,c3' H4 3 _ rfl,c3' H4 4 _ rfl⟩,?_⟩
  have hfl:=se_flush H4 (by omega) (hF1.mono (by omega))
  rw[hl1]at hfl
  refine hfl.mono fun e w5 ⟨he5,H5⟩=>⟨_,he5,?_⟩
  try dsimp only
  rw[hpw,if_neg (show ¬((0:Int)=42) by decide)]at hpf
  exact hR _ _ hpf H5.dropX
abbrev HdV:Type:=Nat×Int×List RP×B32
def zH:HdV:=(0,0,[],0#32)
def partOf (b:UInt8):RP:=⟨((b.toNat / 4:Nat):Int),((b.toNat%4:Nat):Int),[]⟩
def headOf (b:List UInt8):HdV:=(leN ((b.drop 4).take 8),((leN ((b.drop 12).take 2):Nat):Int),(((b.take 60).drop 19).take (leN ((b.drop 14).take 1))).map partOf,BitVec.ofNat 32 (leN ((b.drop 15).take 4)))
def decH (b:List UInt8):HdV×Int:=
 if b.length≠64 then (zH,31) else if (openB b).2=false then (zH,80) else if b.take 4≠magJ then (zH,81) else
 if PlacedR (headOf b).2.1 (headOf b).2.2.1∧headR (headOf b).1 (headOf b).2.1 (headOf b).2.2.1 (headOf b).2.2.2=b then (headOf b,0) else (zH,1)
def hdV (d:HdV×Int) (g:Option Nat) (cap:Nat):Value:=.tuple #[.agg (rcC d.1.1 d.1.2.1 (ptr g) d.1.2.2.1.length cap),u32v d.1.2.2.2,.int .i64 d.2]
theorem part_cells (b:UInt8):IntKind.i64.wrap (Int.fdiv (b.toNat:Int) (2 ^ 2))=((b.toNat / 4:Nat):Int)∧IntKind.i64.wrap (bits2 .and .u8 (b.toNat:Int) 3)=((b.toNat%4:Nat):Int):=by
 have key:∀n:Fin 256,IntKind.i64.wrap (Int.fdiv ((n.1:Nat):Int) (2 ^ 2))=((n.1 / 4:Nat):Int)∧IntKind.i64.wrap (bits2 .and .u8 ((n.1:Nat):Int) 3)=((n.1%4:Nat):Int):=by decide +kernel
 exact key ⟨b.toNat,b.toNat_lt⟩
theorem strings_hasPrefix_spec (l m:List UInt8) (w:World):Ret Tp 160 #[.string (strB l),.string (strB m)] w (.bool (decide (l.take m.length=m))):=by
 refine ret_of (strings_HasPrefix_calls ?_)
 unfold strings_HasPrefix
 exact(hasPrefix_spec l m w).mono fun e w1 ⟨he,hx⟩=>⟨_,he,rfl,hx⟩
theorem rpL_snoc (l:List RP) (x:RP):rpL l++(rpC x).toList=rpL (l++[x]):=by simp[rpL]
theorem openB_take {b:List UInt8}(h64:b.length=64) (ho:(openB b).2=true):(openB b).1=b.take 60:=by
 unfold openB at ho⊢
 rw[h64]at ho⊢
 rw[if_neg (by omega)]at ho⊢
 split at ho
 ·rename_i hq; rw[if_pos hq]
 ·cases ho
theorem mid60 (b:List UInt8) (m n:Nat) (h:m+n≤60):(((b.take 60).drop m).take n)=(b.drop m).take n:=by
 rw[List.drop_take,List.take_take,Nat.min_eq_left (by omega)]
theorem rowZ_mem_cell {F:List Nat}{w0 w:World}{Γ:List A}{e:TypeId}{k n i:Nat}{xs:List Value}{v:Value}(h:T F w0 w Γ) (hm:rowZ e k n xs∈Γ) (hi:xs[i]?=some v):w.cell? (Addr.add ⟨k,0,none⟩ (i*1))=some v:=by
 rw[addr_add,Nat.zero_add,Nat.mul_one]
 exact rowZ.cell (h.says hm) hi
def zR:Array Value:=#[.int .u64 0,.int .i64 0,.slice none 0 0]
variable {F:List Nat}{w0 w:World}{Γ:List A}
theorem dec_four (b:List UInt8) (hl:b.length=64):decP (strB ((b.drop 4).take 15)).data.toList [8,2,1,4]=[leN ((b.drop 4).take 8),leN ((b.drop 12).take 2),leN ((b.drop 14).take 1),leN ((b.drop 15).take 4)]:=by
 show[leN (((b.drop 4).take 15).take 8),leN ((((b.drop 4).take 15).drop 8).take 2),leN (((((b.drop 4).take 15).drop 8).drop 2).take 1),leN ((((((b.drop 4).take 15).drop 8).drop 2).drop 1).take 4)]=_
 simp only[List.drop_take,List.take_take,List.drop_drop]
 rfl
theorem rhead_spec (hT:T F w0 w Γ) (b:List UInt8) (hb:b.length≤1000000):Calls Tp 152 #[.string (strB b)] w fun e w'=>∃g cap,e=.returned (hdV (decH b) g cap)∧T F w0 w' (rowP 64 3 g (decH b).1.2.2.1.length cap (rpL (decH b).1.2.2.1)::Γ):=by
 refine(record_Head_calls (R:=fun v w'=>∃g cap,v=hdV (decH b) g cap∧T F w0 w' (rowP 64 3 g (decH b).1.2.2.1.length cap (rpL (decH b).1.2.2.1)::Γ)) ?_).mono fun e w' ⟨v,he,g,cap,hv,h⟩=>⟨g,cap,by rw[he,hv],h⟩
 unfold record_Head
 refine Alloc.t hT fun k2 w1 h1=>?_
 have h1:T F w0 w1 ([]++blk k2 zR 75::Γ):=h1
 have bad:∀(w':World) (Δ:List A) (x:Int),T F w0 w' (Δ++blk k2 zR 75::Γ)→decH b=(zH,x)→
   St ⟨k2,0,none⟩ (.int .u64 0) w' fun w2=>St ⟨k2,1,none⟩ (.int .i64 0) w2 fun w3=>St ⟨k2,2,none⟩ (.slice none 0 0) w3 fun w4=>∃nr2_0:Int,∃nr2_1:Int,∃(pr2_2:Option Addr) (lr2_2 cr2_2:Nat),(w4.cell? ⟨k2,0,none⟩=some (.int .u64 nr2_0)∧w4.cell? ⟨k2,1,none⟩=some (.int .i64 nr2_1)∧w4.cell? ⟨k2,2,none⟩=some (.slice pr2_2 lr2_2 cr2_2))∧
    ∃g cap,(Value.tuple #[.agg #[.int .u64 nr2_0,.int .i64 nr2_1,.slice pr2_2 lr2_2 cr2_2],.int .u32 0,.int .i64 x])=hdV (decH b) g cap∧T F w0 w4 (rowP 64 3 g (decH b).1.2.2.1.length cap (rpL (decH b).1.2.2.1)::Γ):=by
  intro w' Δ x hT' hd
  have hT':=T.back hT'
  refine St.t (c:=zR) (c':=zR) hT' .head (show 0<3 by decide) rfl rfl fun w2 h2=>St.t (c:=zR) (c':=zR) h2 .head (show 1<3 by decide) rfl rfl fun w3 h3=>St.t (c:=zR) (c':=zR) h3 .head (show 2<3 by decide) rfl rfl fun w4 h4=>?_
  refine⟨_,_,_,_,_,⟨h4.ld (c:=zR) List.mem_cons_self rfl,h4.ld (c:=zR) (i:=1) List.mem_cons_self rfl,h4.ld (c:=zR) (i:=2) List.mem_cons_self rfl⟩,none,0,?_,?_⟩
  ·rw[hd]; rfl
  ·rw[hd]; exact T.nilRow h4.drop _ _
 rw[strB_size]
 refine⟨bne_t fun hne=>bad w1 [] 31 h1 (by unfold decH; rw[if_pos (by omega)]),bne_f fun heq=>?_⟩
 have h64:b.length=64:=by omega
 have eb:(strB b).data.toList=b:=rfl
 refine(open_spec (strB b) (by rw[strB_size]; omega) w1).mono fun e w5 ⟨he5,hx5⟩=>⟨_,_,he5,?_⟩
 simp only[eb]
 have h5:=h1.quiet hx5
 refine⟨not_t fun ho=>bad w5 [] 80 h5 (by unfold decH; rw[if_neg (by omega),if_pos ho]),not_f fun ho=>?_⟩
 rw[openB_take h64 ho]
 have hl60:(b.take 60).length=60:=by rw[List.length_take]; omega
 have eJ:(ByteArray.mk #[82,86,84,74])=strB magJ:=rfl
 rw[eJ]
 have hpre:(b.take 60).take magJ.length=b.take 4:=by rw[List.take_take]; rfl
 refine(strings_hasPrefix_spec (b.take 60) magJ w5).mono fun e w9 ⟨he9,hx9⟩=>⟨_,he9,?_⟩
 try dsimp only
 rw[hpre]
 have h9:=h5.quiet hx9
 refine⟨fun hq=>bad w9 [] 81 h9 (by unfold decH; rw[if_neg (by omega),if_neg (by rw[ho]; decide),if_pos (by simpa using hq)]),fun hq=>?_⟩
 have hmag:b.take 4=magJ:=by simpa using hq
 have s1:=slice_mid (P:=Tp) (t:=9) (k:=.i64) (k':=.i64) (s:=strB (b.take 60)) (lo:=4) (hi:=19) (w:=w9) (by kernel_rfl) (by omega) (by omega) (by rw[strB_size,hl60]; omega)
 rw[strB_extract]at s1
 have e1:(((b.take 60).drop (4:Int).toNat).take ((19:Int).toNat-(4:Int).toNat))=(b.drop 4).take 15:=mid60 b 4 15 (by omega)
 rw[e1]at s1
 refine⟨_,w9,s1,Alloc.t h9 fun k34 w14 h14=>?_⟩
 have h14:T F w0 w14 (rowP 3 1 (some k34) 4 4 (intsN [8,2,1,4])::blk k2 zR 75::Γ):=blk_row h14 rfl rfl (by decide)
 have hl15:((b.drop 4).take 15).length=15:=by rw[List.length_take,List.length_drop]; omega
 refine(decode_spec (ws:=[8,2,1,4]) wid4 (s:=strB ((b.drop 4).take 15)) (by rw[strB_size,hl15]; rfl) h14 (g2:=some k34) (n2:=4) (c2:=4) rfl List.mem_cons_self).mono fun e w15 ⟨b35,he15,h15⟩=>⟨_,_,_,_,he15,no rfl ?_⟩
 try dsimp only
 rw[dec_four b h64]at h15
 have hho:headOf b=(leN ((b.drop 4).take 8),((leN ((b.drop 12).take 2):Nat):Int),(((b.take 60).drop 19).take (leN ((b.drop 14).take 1))).map partOf,BitVec.ofNat 32 (leN ((b.drop 15).take 4))):=rfl
 have bA:leN ((b.drop 4).take 8)<2 ^ 64:=by
  have:=leN_lt ((b.drop 4).take 8)
  rw[show((b.drop 4).take 8).length=8 by rw[List.length_take,List.length_drop]; omega]at this
  have q8:(256:Nat) ^ 8=2 ^ 64:=by decide
  omega
 have bB:leN ((b.drop 12).take 2)<65536:=by
  have:=leN_lt ((b.drop 12).take 2)
  rw[show((b.drop 12).take 2).length=2 by rw[List.length_take,List.length_drop]; omega]at this
  omega
 have bC:leN ((b.drop 14).take 1)<256:=by
  have:=leN_lt ((b.drop 14).take 1)
  rw[show((b.drop 14).take 1).length=1 by rw[List.length_take,List.length_drop]; omega]at this
  omega
 have hdec:decH b=if PlacedR (headOf b).2.1 (headOf b).2.2.1∧headR (headOf b).1 (headOf b).2.1 (headOf b).2.2.1 (headOf b).2.2.2=b then (headOf b,0) else (zH,1):=by
  unfold decH; rw[if_neg (by omega),if_neg (by rw[ho]; decide),if_neg (by simpa using hmag)]
 rw[hho]at hdec
 generalize leN ((b.drop 4).take 8)=nA at h15 hdec bA
 generalize leN ((b.drop 12).take 2)=nB at h15 hdec bB
 generalize leN ((b.drop 14).take 1)=nC at h15 hdec bC
 generalize leN ((b.drop 15).take 4)=nD at h15 hdec
 have hl41:((b.take 60).drop 19).length=41:=by rw[List.length_drop,hl60]
 have hpbl:(((b.take 60).drop 19).take nC).length≤41:=by rw[List.length_take]; omega
 have cellU:∀{w':World} {Δ:List A} (j x:Nat),T F w0 w' Δ→rowP 70 1 (some b35) [8,2,1,4].length [8,2,1,4].length (u64s [nA,nB,nC,nD])∈Δ→[nA,nB,nC,nD][j]?=some x→w'.cell? ⟨b35,j,none⟩=some (.int .u64 (x:Int)):=fun j x h hm hj=>rowP.cell (k:=j) (h.says hm) (by unfold u64s; rw[List.getElem?_map,hj]; rfl)
 refine⟨fun w'=>∃Δ,rowP 70 1 (some b35) [8,2,1,4].length [8,2,1,4].length (u64s [nA,nB,nC,nD])∈Δ∧T F w0 w' Δ,⟨_,List.mem_cons_self,h15.drew⟩,⟨b35,0,none⟩,rfl,by omega,by decide,(nA:Int),fun w' ⟨Δ,hm',h'⟩=>cellU 0 nA h' hm' rfl,⟨b35,0,none⟩,rfl,by omega,by decide,(nB:Int),fun w' ⟨Δ,hm',h'⟩=>by rw[addr_add]; exact cellU 1 nB h' hm' rfl,?_⟩
 refine Alloc.t h15.drew fun k9 w19 h19=>⟨⟨_,List.mem_cons_of_mem _ List.mem_cons_self,h19⟩,?_⟩
 have eB:IntKind.i64.wrap (nB:Int)=(nB:Int):=wrap64 _ (by omega) (by omega)
 have eC:IntKind.i64.wrap (nC:Int)=(nC:Int):=wrap64 _ (by omega) (by omega)
 have e19:IntKind.i64.wrap (19+(nC:Int))=19+(nC:Int):=wrap64 _ (by omega) (by omega)
 rw[eB]
 refine St.t (c:=zR) (c':=#[.int .u64 (nA:Int),.int .i64 0,.slice none 0 0]) h19 .head (show 0<3 by decide) rfl rfl fun w20 h20=>St.t (c':=#[.int .u64 (nA:Int),.int .i64 (nB:Int),.slice none 0 0]) h20 .head (show 1<3 by decide) rfl rfl fun w21 h21=>St.t (c':=rcC nA (nB:Int) none 0 0) h21 .head (show 2<3 by decide) rfl rfl fun w22 h22=>?_
 refine⟨⟨b35,0,none⟩,rfl,by omega,by decide,(nC:Int),by rw[addr_add]; exact cellU 2 nC h22 (List.mem_cons_of_mem _ List.mem_cons_self) rfl,?_⟩
 rw[eC,e19,strB_size,hl60]
 refine⟨_,w22,min_run _ _ _ _ _ _,?_⟩
 have s2:=slice_mid (P:=Tp) (t:=9) (k:=.i64) (k':=.i64) (s:=strB (b.take 60)) (lo:=19) (hi:=if ((60:Nat):Int)<19+(nC:Int) then ((60:Nat):Int) else 19+(nC:Int)) (w:=w22) (by kernel_rfl) (by omega) (by split<;>omega) (by rw[strB_size,hl60]; split<;>omega)
 rw[strB_extract]at s2
 have e2:(((b.take 60).drop (19:Int).toNat).take ((if ((60:Nat):Int)<19+(nC:Int) then ((60:Nat):Int) else 19+(nC:Int)).toNat-(19:Int).toNat))=((b.take 60).drop 19).take nC:=by
  rw[show(19:Int).toNat=19 from rfl]
  split
  ·exact(List.take_of_length_le (l:=(b.take 60).drop 19) (by omega)).trans (List.take_of_length_le (l:=(b.take 60).drop 19) (by omega)).symm
  ·rw[show(19+(nC:Int)).toNat-19=nC by omega]
 rw[e2]at s2
 refine⟨_,w22,s2,?_⟩
 generalize ((b.take 60).drop 19).take nC=pb at hdec hpbl
 obtain⟨kz,cz,w25,hr25,h25⟩:=bytes_t h22 (strB pb)
 rw[strB_size]at hr25 h25
 refine⟨_,_,_,w25,hr25,?_⟩
 refine⟨fun vs w'=>∃(i:Nat) (g:Option Nat) (cap:Nat),vs=[.int .i64 (i:Int)]∧i≤pb.length∧T F w0 w' (rowP 64 3 g i cap (rpL ((pb.take i).map partOf))::rowZ 5 kz pb.length (bvals pb)::blk k9 (rcC nA (nB:Int) (ptr g) i cap) 75::rowP 70 1 (some b35) [8,2,1,4].length [8,2,1,4].length (u64s [nA,nB,nC,nD])::rowP 3 1 (some k34) 4 4 (intsN [8,2,1,4])::blk k2 zR 75::Γ),fun vs _=>match vs with|[.int _ i]=>(pb.length-i).toNat|_=>0,⟨0,none,0,rfl,by omega,T.nilRow h25 _ _⟩,?_⟩
 rintro vs w26 ⟨i,g,cap,rfl,hi,h26⟩
 refine⟨_,rfl,dec_t fun hlt=>?_,dec_f fun hge=>?_⟩
 ·have hlt:i<pb.length:=by omega
  have hnext:rpL ((pb.take i).map partOf)++(rpC (partOf pb[i])).toList=rpL ((pb.take (i+1)).map partOf):=by
   rw[rpL_snoc,List.take_add_one,List.getElem?_eq_getElem hlt,List.map_append]; rfl
  have hcell:(bvals pb)[i]?=some (.int .u8 ((pb[i]).toNat:Int)):=by rw[bvals_get,List.getElem?_eq_getElem hlt]; rfl
  generalize pb[i]=x at hnext hcell
  refine⟨⟨kz,0,none⟩,rfl,by omega,by omega,(x.toNat:Int),by rw[Int.toNat_natCast]; exact rowZ_mem_cell h26 (List.mem_cons_of_mem _ List.mem_cons_self) hcell,?_⟩
  refine⟨_,_,_,h26.ld (b:=k9) (c:=rcC nA (nB:Int) (ptr g) i cap) (i:=2) (List.mem_cons_of_mem _ (List.mem_cons_of_mem _ List.mem_cons_self)) rfl,?_⟩
  rw[(part_cells x).1,(part_cells x).2]
  refine pushN_t (P:=Tp) (t:=60) (i:=Tryz.t64) (z:=.agg #[.int .i64 0,.int .i64 0,.string (ByteArray.mk #[])]) (c:=rpC (partOf x)) (size:=3) (by kernel_rfl) (by kernel_rfl) (by kernel_rfl) (by kernel_rfl) (by kernel_rfl) (by kernel_rfl) h26 .head rfl (fun u hu=>?_) (by omega) fun g' cap' w28 h28=>?_
  ·have hu:u∈[Value.int .i64 (partOf x).col,.int .i64 (partOf x).off,.string (strB (partOf x).data)]:=hu
   simp only[List.mem_cons,List.not_mem_nil,or_false]at hu
   rcases hu with rfl|rfl|rfl<;>rfl
  ·rw[hnext]at h28
   refine St.t (c:=rcC nA (nB:Int) (ptr g) i cap) (c':=rcC nA (nB:Int) (ptr g') (i+1) cap') h28 (.tail (.tail .head)) (show 2<3 by decide) rfl rfl fun w29 h29=>⟨⟨i+1,g',cap',?_,by omega,h29⟩,?_⟩
   ·rw[wrap64 _ (by omega) (by omega)]; rfl
   ·show((pb.length:Int)-IntKind.i64.wrap ((i:Int)+1)).toNat<((pb.length:Int)-(i:Int)).toNat
    rw[wrap64 _ (by omega) (by omega)]; omega
 ·have hie:i=(pb.map partOf).length:=by rw[List.length_map]; omega
  subst hie
  rw[List.take_of_length_le (by rw[List.length_map]; omega)]at h26
  have hps:(pb.map partOf).length≤41:=by rw[List.length_map]; exact hpbl
  generalize pb.map partOf=ps at h26 hdec hps
  have rd:∀{w':World} {Δ:List A},T F w0 w' Δ→blk k9 (rcC nA (nB:Int) (ptr g) ps.length cap) 75∈Δ→w'.cell? ⟨k9,0,none⟩=some (.int .u64 (nA:Int))∧w'.cell? ⟨k9,1,none⟩=some (.int .i64 (nB:Int))∧w'.cell? ⟨k9,2,none⟩=some (.slice (ptr g) ps.length cap):=fun h hm=>⟨h.ld (c:=rcC nA (nB:Int) (ptr g) ps.length cap) hm rfl,h.ld (c:=rcC nA (nB:Int) (ptr g) ps.length cap) (i:=1) hm rfl,h.ld (c:=rcC nA (nB:Int) (ptr g) ps.length cap) (i:=2) hm rfl⟩
  have m3:∀{a1 a2 a3:A} {L:List A},a3∈a1::a2::a3::L:=fun {a1 a2 a3 L}=>List.mem_cons_of_mem _ (List.mem_cons_of_mem _ List.mem_cons_self)
  refine Join.intro fun J hJ=>?_
  refine⟨⟨b35,0,none⟩,rfl,by omega,by decide,(nD:Int),by rw[addr_add]; exact cellU 3 nD h26 (List.mem_cons_of_mem _ m3) rfl,?_⟩
  have eD:IntKind.u32.wrap (nD:Int)=((BitVec.ofNat 32 nD).toNat:Int):=by
   rw[BitVec.toNat_ofNat]; simp[IntKind.wrap,IntKind.bits,IntKind.signed]
  rw[eD]
  have hno:∀w',T F w0 w' (rowP 64 3 g ps.length cap (rpL ps)::rowZ 5 kz pb.length (bvals pb)::blk k9 (rcC nA (nB:Int) (ptr g) ps.length cap) 75::rowP 70 1 (some b35) [8,2,1,4].length [8,2,1,4].length (u64s [nA,nB,nC,nD])::rowP 3 1 (some k34) 4 4 (intsN [8,2,1,4])::blk k2 zR 75::Γ)→¬(PlacedR (nB:Int) ps∧headR nA (nB:Int) ps (BitVec.ofNat 32 nD)=b)→J [] w':=fun w' h' hn=>hJ [] w' ⟨rfl,bad w' [_,_,_,_,_] 1 h' (by rw[hdec]; exact if_neg hn)⟩
  refine⟨_,_,_,_,_,rd h26 m3,?_⟩
  refine(placed_spec (seq:=nA) (row:=(nB:Int)) (c:=cap) (T.parts h26 List.mem_cons_self).1 (by omega)).mono fun e w34 ⟨he34,hx34⟩=>⟨_,he34,fun hp=>?_,fun hp=>hno w34 (h26.quiet hx34) fun hq=>of_decide_eq_false hp hq.1⟩
  have hP:=of_decide_eq_true hp
  have h34:=h26.quiet hx34
  refine⟨_,_,_,_,_,rd h34 m3,?_⟩
  refine(head_spec (seq:=nA) (row:=(nB:Int)) (c:=cap) (sum:=BitVec.ofNat 32 nD) bA hP (T.parts h34 List.mem_cons_self).1).mono fun e w35 ⟨he35,hx35⟩=>⟨_,he35,fun hq=>?_,fun hq=>?_⟩
  ·rw[strB_toList,strB_toList]at hq
   have hq:headR nA (nB:Int) ps (BitVec.ofNat 32 nD)=b:=by simpa using hq
   rw[if_pos ⟨hP,hq⟩]at hdec
   have h35:=h34.quiet hx35
   refine⟨_,_,_,_,_,rd h35 m3,?_⟩
   refine St.t (c:=zR) (c':=#[.int .u64 (nA:Int),.int .i64 0,.slice none 0 0]) h35 (.tail (.tail (.tail (.tail (.tail .head))))) (show 0<3 by decide) rfl rfl fun w36 h36=>St.t (c':=#[.int .u64 (nA:Int),.int .i64 (nB:Int),.slice none 0 0]) h36 (.tail (.tail (.tail (.tail (.tail .head))))) (show 1<3 by decide) rfl rfl fun w37 h37=>St.t (c':=rcC nA (nB:Int) (ptr g) ps.length cap) h37 (.tail (.tail (.tail (.tail (.tail .head))))) (show 2<3 by decide) rfl rfl fun w38 h38=>?_
   have h38':=T.dropAt (T.dropAt (T.dropAt (T.dropAt h38 (.tail .head)) (.tail .head)) (.tail .head)) (.tail .head)
   refine⟨_,_,_,_,_,⟨h38'.ld (c:=rcC nA (nB:Int) (ptr g) ps.length cap) (List.mem_cons_of_mem _ List.mem_cons_self) rfl,h38'.ld (c:=rcC nA (nB:Int) (ptr g) ps.length cap) (i:=1) (List.mem_cons_of_mem _ List.mem_cons_self) rfl,h38'.ld (c:=rcC nA (nB:Int) (ptr g) ps.length cap) (i:=2) (List.mem_cons_of_mem _ List.mem_cons_self) rfl⟩,g,cap,?_,?_⟩
   ·rw[hdec]; rfl
   ·rw[hdec]; exact T.dropAt h38' (.tail .head)
  ·rw[strB_toList,strB_toList]at hq
   exact hno w35 (h34.quiet hx35) fun hh=>by rw[hh.2]at hq; simp at hq
theorem rpL_set (s:List UInt8):∀(l:List RP) (j:Nat),(rpL l).set (j*3+2) (.string (strB s))=rpL (l.modify j fun x=>{ x with data:=s })
 |[],j=>by simp[rpL]
 |x::l,0=>by simp[rpL,rpC]
 |x::l,j+1=>by
  have e:rpL (x::l)=.int .i64 x.col::.int .i64 x.off::.string (strB x.data)::rpL l:=rfl
  rw[e,show(j+1)*3+2=(j*3+2)+1+1+1 by omega,List.set_cons_succ,List.set_cons_succ,List.set_cons_succ,rpL_set s l j,List.modify_succ_cons]; rfl
def fillN (l:List RP) (L:List (List UInt8)) (i:Nat):List RP:=l.mapIdx fun j x=>if j<i then { x with data:=L.getD j [] } else x
def withD (l:List RP) (L:List (List UInt8)):List RP:=fillN l L l.length
theorem fillN_len (l:List RP) (L:List (List UInt8)) (i:Nat):(fillN l L i).length=l.length:=List.length_mapIdx
theorem withD_len (l:List RP) (L:List (List UInt8)):(withD l L).length=l.length:=fillN_len ..
theorem fillN_zero (l:List RP) (L:List (List UInt8)):fillN l L 0=l:=by
 apply List.ext_getElem?; intro j
 rw[fillN,List.getElem?_mapIdx]
 cases l[j]?<;>simp
theorem fillN_next (l:List RP) (L:List (List UInt8)) (i:Nat):(fillN l L i).modify i (fun x=>{ x with data:=L.getD i [] })=fillN l L (i+1):=by
 apply List.ext_getElem?; intro j
 rw[List.getElem?_modify,fillN,fillN,List.getElem?_mapIdx,List.getElem?_mapIdx]
 cases l[j]? with
 |none=>simp
 |some x=>
  simp only[Option.map_some]
  by_cases h:i=j
  ·subst h; simp
  ·by_cases h2:j<i
   ·simp only[Option.map_eq_map,Option.map_some,if_neg h,if_pos h2,if_pos (show j<i+1 by omega)]
   ·simp only[Option.map_eq_map,Option.map_some,if_neg h,if_neg h2,if_neg (show ¬j<i+1 by omega)]
theorem withD_datas {l:List RP}{L:List (List UInt8)}(h:L.length=l.length):datas (withD l L)=L:=by
 apply List.ext_getElem?; intro j
 rw[datas,withD,fillN,List.getElem?_map,List.getElem?_mapIdx]
 by_cases hj:j<l.length
 ·rw[List.getElem?_eq_getElem hj]
  simp only[Option.map_some,if_pos hj]
  rw[List.getElem?_eq_getElem (by omega),List.getD_eq_getElem?_getD,List.getElem?_eq_getElem (by omega)]; rfl
 ·rw[List.getElem?_eq_none (by omega),List.getElem?_eq_none (by omega)]; rfl
theorem loaded_datas (l:List RP):LoadedR l↔∀s∈datas l,s.length=64:=by
 unfold LoadedR datas
 simp
theorem decH_len (b:List UInt8):(decH b).1.2.2.1.length≤41:=by
 have h:(headOf b).2.2.1.length≤41:=by
  show((((b.take 60).drop 19).take _).map partOf).length≤41
  rw[List.length_map,List.length_take,List.length_drop,List.length_take]; omega
 unfold decH
 split
 ·exact Nat.zero_le _
 ·split
  ·exact Nat.zero_le _
  ·split
   ·exact Nat.zero_le _
   ·split
    ·exact h
    ·exact Nat.zero_le _
abbrev RcV:Type:=Nat×Int×List RP
def zRc:RcV:=(0,0,[])
def decR (b:List UInt8) (L:List (List UInt8)):RcV×Int:=
 if (decH b).2≠0 then (zRc,(decH b).2) else if L.length≠(decH b).1.2.2.1.length then (zRc,31) else if ¬LoadedR (withD (decH b).1.2.2.1 L) then (zRc,31) else if crcSum L.flatten≠(decH b).1.2.2.2 then (zRc,80) else (((decH b).1.1,(decH b).1.2.1,withD (decH b).1.2.2.1 L),0)
def rcV (d:RcV×Int) (g:Option Nat) (cap:Nat):Value:=.tuple #[.agg (rcC d.1.1 d.1.2.1 (ptr g) d.1.2.2.length cap),.int .i64 d.2]
variable {F:List Nat}{w0 w:World}{Γ:List A}
theorem rdec_spec (hT:T F w0 w Γ) (b:List UInt8) (hb:b.length≤1000000){L:List (List UInt8)}{gl:Option Nat}{cl:Nat}(hm:rowP 9 1 gl L.length cl (strV L)∈Γ):
  Calls Tp 153 #[.string (strB b),.slice (ptr gl) L.length cl] w fun e w'=>∃g cap,e=.returned (rcV (decR b L) g cap)∧T F w0 w' (rowP 64 3 g (decR b L).1.2.2.length cap (rpL (decR b L).1.2.2)::Γ):=by
 refine(record_Decode_calls (R:=fun v w'=>∃g cap,v=rcV (decR b L) g cap∧T F w0 w' (rowP 64 3 g (decR b L).1.2.2.length cap (rpL (decR b L).1.2.2)::Γ)) ?_).mono fun e w' ⟨v,he,g,cap,hv,h⟩=>⟨g,cap,by rw[he,hv],h⟩
 unfold record_Decode
 refine Alloc.t hT fun k4 w1 h1=>?_
 have h1:T F w0 w1 (blk k4 zR 75::Γ):=h1
 have bad:∀(w':World) (Δ:List A) (x:Int),T F w0 w' (Δ++blk k4 zR 75::Γ)→decR b L=(zRc,x)→
   St ⟨k4,0,none⟩ (.int .u64 0) w' fun w2=>St ⟨k4,1,none⟩ (.int .i64 0) w2 fun w3=>St ⟨k4,2,none⟩ (.slice none 0 0) w3 fun w4=>∃nr2_0:Int,∃nr2_1:Int,∃(pr2_2:Option Addr) (lr2_2 cr2_2:Nat),(w4.cell? ⟨k4,0,none⟩=some (.int .u64 nr2_0)∧w4.cell? ⟨k4,1,none⟩=some (.int .i64 nr2_1)∧w4.cell? ⟨k4,2,none⟩=some (.slice pr2_2 lr2_2 cr2_2))∧
    ∃g cap,(Value.tuple #[.agg #[.int .u64 nr2_0,.int .i64 nr2_1,.slice pr2_2 lr2_2 cr2_2],.int .i64 x])=rcV (decR b L) g cap∧T F w0 w4 (rowP 64 3 g (decR b L).1.2.2.length cap (rpL (decR b L).1.2.2)::Γ):=by
  intro w' Δ x hT' hd
  have hT':=T.back hT'
  refine St.t (c:=zR) (c':=zR) hT' .head (show 0<3 by decide) rfl rfl fun w2 h2=>St.t (c:=zR) (c':=zR) h2 .head (show 1<3 by decide) rfl rfl fun w3 h3=>St.t (c:=zR) (c':=zR) h3 .head (show 2<3 by decide) rfl rfl fun w4 h4=>?_
  refine⟨_,_,_,_,_,⟨h4.ld (c:=zR) List.mem_cons_self rfl,h4.ld (c:=zR) (i:=1) List.mem_cons_self rfl,h4.ld (c:=zR) (i:=2) List.mem_cons_self rfl⟩,none,0,?_,?_⟩
  ·rw[hd]; rfl
  ·rw[hd]; exact T.nilRow h4.drop _ _
 have h41:=decH_len b
 have hdec:decR b L=if (decH b).2≠0 then (zRc,(decH b).2) else if L.length≠(decH b).1.2.2.1.length then (zRc,31) else if ¬LoadedR (withD (decH b).1.2.2.1 L) then (zRc,31) else if crcSum L.flatten≠(decH b).1.2.2.2 then (zRc,80) else (((decH b).1.1,(decH b).1.2.1,withD (decH b).1.2.2.1 L),0):=rfl
 have hhd:=rhead_spec h1 b hb
 generalize decH b=d at hhd hdec h41
 obtain⟨⟨seq,row,ps,sum⟩,er⟩:=d
 have h41:ps.length≤41:=h41
 refine hhd.mono fun e w2 ⟨g,cap,he2,h2⟩=>⟨_,_,_,_,_,_,_,he2,?_⟩
 have h2:T F w0 w2 (rowP 64 3 g ps.length cap (rpL ps)::blk k4 zR 75::Γ):=h2
 refine Alloc.t h2 fun k6 w3 h3=>St.t (c:=zR) (c':=#[.int .u64 (seq:Int),.int .i64 0,.slice none 0 0]) h3 .head (show 0<3 by decide) rfl rfl fun w4 h4=>St.t (c':=#[.int .u64 (seq:Int),.int .i64 row,.slice none 0 0]) h4 .head (show 1<3 by decide) rfl rfl fun w5 h5=>St.t (c':=rcC seq row (ptr g) ps.length cap) h5 .head (show 2<3 by decide) rfl rfl fun w6 h6=>?_
 refine⟨bne_t fun hne=>bad w6 [_,_] er h6 (by rw[hdec]; exact if_pos hne),bne_f fun heq=>?_⟩
 have heq:er=0:=heq
 rw[if_neg (by show ¬(er≠0); omega)]at hdec
 have rd:∀{w':World} {Δ:List A},T F w0 w' Δ→blk k6 (rcC seq row (ptr g) ps.length cap) 75∈Δ→w'.cell? ⟨k6,0,none⟩=some (.int .u64 (seq:Int))∧w'.cell? ⟨k6,1,none⟩=some (.int .i64 row)∧w'.cell? ⟨k6,2,none⟩=some (.slice (ptr g) ps.length cap):=fun h hm=>⟨h.ld (c:=rcC seq row (ptr g) ps.length cap) hm rfl,h.ld (c:=rcC seq row (ptr g) ps.length cap) (i:=1) hm rfl,h.ld (c:=rcC seq row (ptr g) ps.length cap) (i:=2) hm rfl⟩
 refine⟨_,_,_,(rd h6 List.mem_cons_self).2.2,?_⟩
 refine⟨bne_t fun hne=>bad w6 [_,_] 31 h6 (by rw[hdec]; exact if_pos (show L.length≠ps.length by omega)),bne_f fun heql=>?_⟩
 have hll:L.length=ps.length:=by omega
 rw[if_neg (by show ¬(L.length≠ps.length); omega)]at hdec
 have m2:∀{a1 a2:A} {Δ:List A},a2∈a1::a2::Δ:=fun {a1 a2 Δ}=>List.mem_cons_of_mem _ List.mem_cons_self
 refine⟨fun vs w'=>∃i:Nat,vs=[.int .i64 (i:Int)]∧i≤L.length∧T F w0 w' (rowP 64 3 g ps.length cap (rpL (fillN ps L i))::blk k6 (rcC seq row (ptr g) ps.length cap) 75::blk k4 zR 75::Γ),fun vs _=>match vs with|[.int _ i]=>(L.length-i).toNat|_=>0,⟨0,rfl,by omega,by rw[fillN_zero]; exact h6.swap (.swap _ _ _)⟩,?_⟩
 rintro vs w13 ⟨i,rfl,hi,h13⟩
 refine⟨_,rfl,dec_t fun hlt=>?_,dec_f fun hge=>?_⟩
 ·have hlt:i<L.length:=by omega
  obtain⟨bl,rfl,hcl⟩:=T.row1 (i:=i) (v:=.string (strB (L.getD i []))) h13 (List.mem_cons_of_mem _ (List.mem_cons_of_mem _ (List.mem_cons_of_mem _ hm))) (by
   unfold strV; rw[List.getElem?_map,List.getD_eq_getElem?_getD,List.getElem?_eq_getElem hlt]; rfl)
  refine⟨_,rfl,by omega,by omega,_,by rw[Int.toNat_natCast]; exact hcl,?_⟩
  refine⟨_,_,_,(rd h13 m2).2.2,?_⟩
  obtain⟨bp,rfl⟩:=rowP.pos (h13.says List.mem_cons_self) (by omega)
  refine⟨_,rfl,by omega,by omega,?_⟩
  rw[Int.toNat_natCast,addr_add,addr_add,Nat.zero_add]
  refine StRow.t h13 .head (by rw[rpL_len,fillN_len]; omega) rfl fun w14 h14=>⟨⟨i+1,?_,by omega,?_⟩,?_⟩
  ·rw[wrap64 _ (by omega) (by omega)]; rfl
  ·rw[rpL_set,fillN_next]at h14; exact h14
  ·show((L.length:Int)-IntKind.i64.wrap ((i:Int)+1)).toNat<((L.length:Int)-(i:Int)).toNat
   rw[wrap64 _ (by omega) (by omega)]; omega
 ·have hie:i=ps.length:=by omega
  subst hie
  have h13:T F w0 w13 (rowP 64 3 g ps.length cap (rpL (withD ps L))::blk k6 (rcC seq row (ptr g) ps.length cap) 75::blk k4 zR 75::Γ):=h13
  have hwl:=withD_len ps L
  have hwd:=withD_datas hll
  refine⟨_,_,_,_,_,rd h13 m2,?_⟩
  rw[←hwl]at h13 rd
  rw[←hwl]
  refine(loaded_spec (seq:=seq) (row:=row) (c:=cap) (T.parts h13 List.mem_cons_self).1 (by omega)).mono fun e w15 ⟨he15,hx15⟩=>⟨_,he15,?_⟩
  have h15:=h13.quiet hx15
  refine⟨not_t fun ho=>bad w15 [_,_] 31 h15 (by rw[hdec]; exact if_pos (of_decide_eq_false ho)),not_f fun ho=>?_⟩
  have hLo:LoadedR (withD ps L):=of_decide_eq_true ho
  rw[if_neg (fun hn=>hn hLo)]at hdec
  have hfl:L.flatten.length=64*ps.length:=by have:=datas_flat hLo; rw[hwd,hwl]at this; exact this
  refine(join_spec (L:=L) h15 (List.mem_cons_of_mem _ (List.mem_cons_of_mem _ (List.mem_cons_of_mem _ hm))) (by omega) (by omega)).mono fun e w19 ⟨he19,hx19⟩=>⟨_,he19,?_⟩
  have h19:=h15.quiet hx19
  refine(crsum_spec (strB L.flatten) (by rw[strB_size]; omega) w19).mono fun e w20 ⟨he20,hx20⟩=>⟨_,he20,?_⟩
  have h20:=h19.quiet hx20
  have eL:(strB L.flatten).data.toList=L.flatten:=rfl
  try dsimp only
  try rw[eL]
  refine⟨bne_t fun hne=>bad w20 [_,_] 80 h20 (by rw[hdec]; exact if_pos fun hq=>hne (by rw[hq])),bne_f fun hsm=>?_⟩
  have hsm:((crcSum L.flatten).toNat:Int)=(sum.toNat:Int):=hsm
  have hsm:crcSum L.flatten=sum:=BitVec.eq_of_toNat_eq (by omega)
  rw[if_neg (fun hn=>hn hsm)]at hdec
  refine⟨_,_,_,_,_,rd h20 m2,?_⟩
  refine St.t (c:=zR) (c':=#[.int .u64 (seq:Int),.int .i64 0,.slice none 0 0]) h20 (.tail (.tail .head)) (show 0<3 by decide) rfl rfl fun w24 h24=>St.t (c':=#[.int .u64 (seq:Int),.int .i64 row,.slice none 0 0]) h24 (.tail (.tail .head)) (show 1<3 by decide) rfl rfl fun w25 h25=>St.t (c':=rcC seq row (ptr g) (withD ps L).length cap) h25 (.tail (.tail .head)) (show 2<3 by decide) rfl rfl fun w26 h26=>?_
  have h26':=T.dropAt h26 (.tail .head)
  refine⟨_,_,_,_,_,⟨h26'.ld (c:=rcC seq row (ptr g) (withD ps L).length cap) m2 rfl,h26'.ld (c:=rcC seq row (ptr g) (withD ps L).length cap) (i:=1) m2 rfl,h26'.ld (c:=rcC seq row (ptr g) (withD ps L).length cap) (i:=2) m2 rfl⟩,g,cap,?_,?_⟩
  ·rw[hdec]; rfl
  ·rw[hdec]; exact T.dropAt h26' (.tail .head)
abbrev Op:Type:=Option (Int×ByteArray)
def runS:AD→List Op→AD×Int
 |a,[]=>(a,0)
 |a,some x::l=>if a.put x.1 x.2≠0 then (a.write x.1 x.2,a.put x.1 x.2) else runS (a.write x.1 x.2) l
 |a,none::l=>if a.flush1≠0 then (a.flush,a.flush1) else runS a.flush l
inductive Stp where
 |wr (i:Int) (s:ByteArray) (k3 k4 k5:Nat)
 |fl
def Stp.op:Stp→Op
 |.wr i s _ _ _=>some (i,s)
 |.fl=>none
def Stp.val (q:Nat):Stp→Value
 |.wr _ _ k3 k4 k5=>.func (.func 128) #[] #[.pointer (some ⟨k3,0,none⟩),.pointer (some ⟨k4,0,none⟩),.pointer (some ⟨k5,0,none⟩)]
 |.fl=>.func (.func 62) #[.pointer (some ⟨q,0,none⟩)] #[]
def Stp.own (q:Nat):Stp→List A
 |.wr i s k3 k4 k5=>[blk k3 #[.pointer (some ⟨q,0,none⟩)] 35,blk k4 #[.int .i64 i] 3,blk k5 #[.string s] 9]
 |.fl=>[]
section
variable {q:Nat}{a:AD}{F:List Nat}{w0 w:World}{X:List A}
theorem steps_spec {l:List Stp}{N:Nat}{g:Option Nat}{cap:Nat}(h:Dr q a F w0 w X) (hm:rowP 133 1 g l.length cap (l.map (Stp.val q))∈X) (ho:∀s∈l,∀x∈s.own q,x∈X) (hF:a.Few N) (hN:N+l.length≤1000000):
  Calls Tp 59 #[.slice (ptr g) l.length cap] w fun e w'=>e=.returned (.int .i64 (runS a (l.map Stp.op)).2)∧Dr q (runS a (l.map Stp.op)).1 F w0 w' X:=by
 refine rq (ring_steps_calls ?_)
 unfold ring_steps
 refine⟨fun vs w'=>∃(i:Nat) (a':AD),vs=[.int .i64 (i:Int)]∧i≤l.length∧Dr q a' F w0 w' X∧a'.Few (N+i)∧runS a (l.map Stp.op)=runS a' ((l.drop i).map Stp.op),fun vs _=>match vs with|[.int _ i]=>(l.length-i).toNat|_=>0,⟨0,a,rfl,by omega,h,hF,rfl⟩,?_⟩
 rintro vs w1 ⟨i,a',rfl,hi,h1,hF1,hr⟩
 refine⟨_,rfl,dec_t fun hlt=>?_,dec_f fun hge=>?_⟩
 ·have hlt:i<l.length:=by omega
  obtain⟨b,rfl,hc⟩:=T.row1 (i:=i) (v:=(l[i]).val q) h1.under hm (by rw[List.getElem?_map,List.getElem?_eq_getElem hlt]; rfl)
  have hmem:l[i]∈l:=List.getElem_mem hlt
  rw[List.drop_eq_getElem_cons hlt,List.map_cons]at hr
  refine⟨_,rfl,by omega,by omega,_,by rw[Int.toNat_natCast]; exact hc,?_⟩
  have ho1:=ho _ hmem
  have hnx:IntKind.i64.wrap ((i:Int)+1)=((i+1:Nat):Int):=by rw[wrap64 _ (by omega) (by omega)]; omega
  have hms:((l.length:Int)-IntKind.i64.wrap ((i:Int)+1)).toNat<((l.length:Int)-(i:Int)).toNat:=by rw[wrap64 _ (by omega) (by omega)]; omega
  generalize l[i]=x at hr ho1
  cases x with
  |wr j s k3 k4 k5=>
   refine CallF.func (by kernel_rfl) ((ring_written_1_calls (k0:=⟨k3,0,none⟩) (k1:=⟨k4,0,none⟩) (k2:=⟨k5,0,none⟩) (R:=fun v w2=>v=.int .i64 (a'.put j s)∧Dr q (a'.write j s) F w0 w2 X) ?_).mono fun e w2 ⟨v,he,hv,h2⟩=>⟨a'.put j s,he.trans (by rw[hv]),bne_t fun hne=>?_,bne_f fun heq=>?_⟩)
   ·unfold ring_written_1
    refine⟨_,h1.under.ld (b:=k3) (ho1 _ List.mem_cons_self) rfl,_,h1.under.ld (b:=k4) (ho1 _ (List.mem_cons_of_mem _ List.mem_cons_self)) rfl,_,h1.under.ld (b:=k5) (ho1 _ (List.mem_cons_of_mem _ (List.mem_cons_of_mem _ List.mem_cons_self))) rfl,?_⟩
    exact write_u h1 (hF1.mono (by omega)) rfl fun w' h'=>⟨_,rfl,rfl,h'⟩
   ·have hr:runS a (l.map Stp.op)=(a'.write j s,a'.put j s):=hr.trans (if_pos hne)
    rw[hr]; exact⟨rfl,h2⟩
   ·have hr:runS a (l.map Stp.op)=runS (a'.write j s) ((l.drop (i+1)).map Stp.op):=hr.trans (if_neg (fun hn=>hn heq))
    exact⟨⟨i+1,a'.write j s,by rw[hnx],by omega,h2,(hF1.write j s).mono (by omega),hr⟩,hms⟩
  |fl=>
   refine CallF.func (by kernel_rfl) (flush_u h1 (hF1.mono (by omega)) rfl fun w2 h2=>⟨_,rfl,bne_t fun hne=>?_,bne_f fun heq=>?_⟩)
   ·have hr:runS a (l.map Stp.op)=(a'.flush,a'.flush1):=hr.trans (if_pos hne)
    rw[hr]; exact⟨rfl,h2⟩
   ·have hr:runS a (l.map Stp.op)=runS a'.flush ((l.drop (i+1)).map Stp.op):=hr.trans (if_neg (fun hn=>hn heq))
    exact⟨⟨i+1,a'.flush,by rw[hnx],by omega,h2,hF1.flush.mono (by omega),hr⟩,hms⟩
 ·have hie:i=l.length:=by omega
  subst hie
  rw[List.drop_length]at hr
  rw[hr]; exact⟨rfl,h1⟩
theorem written_spec (h:Dr q a F w0 w X) (i:Int) (s:ByteArray):Calls Tp 60 #[.pointer (some ⟨q,0,none⟩),.int .i64 i,.string s] w fun e w'=>∃k3 k4 k5,e=.returned ((Stp.wr i s k3 k4 k5).val q)∧Dr q a F w0 w' ((Stp.wr i s k3 k4 k5).own q++X):=by
 refine(ring_written_calls (R:=fun v w'=>∃k3 k4 k5,v=(Stp.wr i s k3 k4 k5).val q∧Dr q a F w0 w' ((Stp.wr i s k3 k4 k5).own q++X)) ?_).mono fun e w' ⟨v,he,k3,k4,k5,hv,h⟩=>⟨k3,k4,k5,by rw[he,hv],h⟩
 unfold ring_written
 refine Dr.alloc h fun k3 w1 h1=>Dr.alloc h1 fun k4 w2 h2=>Dr.alloc h2 fun k5 w3 h3=>⟨k3,k4,k5,rfl,Dr.perm h3 ?_⟩
 exact(List.Perm.swap _ _ _).trans ((List.Perm.cons _ (List.Perm.swap _ _ _)).trans ((List.Perm.swap _ _ _)))
end
def slotsN (n:Int):Int:=(max (n-4) 0) / 41
theorem slots_spec (n:Int) (h0:-9223372036854775804≤n) (h1:n≤9223372036854775807) (w:World):Ret Tp 79 #[.int .i64 n] w (.int .i64 (slotsN n)):=by
 refine ret_of (ring_Slots_calls ?_)
 unfold ring_Slots
 rw[wrap64 _ (by omega) (by omega)]
 refine⟨_,w,max_run _ _ _ _ _ _,?_,Ext.refl w⟩
 unfold slotsN
 have e:(if n-4<0 then (0:Int) else n-4)=max (n-4) 0:=by split<;>omega
 rw[e,Int.tdiv_eq_ediv_of_nonneg (by omega),wrap64 _ (by omega) (by omega)]
def magM:List UInt8:=[82,86,84,77]
def markB (n:Nat):List UInt8:=sealB (magM++leB n 8) 64
theorem markB_len (n:Nat):(markB n).length=64:=sealB_len (by rw[List.length_append,leB_len]; decide)
theorem rwid8:Wid [8]:=⟨by decide,by decide⟩
theorem mark_spec {n:Nat}(hn:n<2 ^ 64) (w:World):Ret Tp 61 #[.int .u64 (n:Int)] w (.string (strB (markB n))):=by
 refine ret_of (ring_mark_calls ?_)
 unfold ring_mark
 refine Alloc.t (T.nil w) fun k9 w1 h1=>?_
 have h1:T [] w w1 [rowP 70 1 (some k9) 1 1 (u64s [n])]:=blk_row h1 rfl rfl (by decide)
 refine Alloc.t h1 fun k10 w2 h2=>?_
 have h2:T [] w w2 (rowP 3 1 (some k10) 1 1 (intsN [8])::[rowP 70 1 (some k9) 1 1 (u64s [n])]):=blk_row h2 rfl rfl (by decide)
 have hf:∀(i m x:Nat),[n][i]?=some m→[8][i]?=some x→m<256 ^ x:=fun i m x hm hx=>by
  match i,hm,hx with
  |0,hm,hx=>
   cases hm; cases hx
   have e:(256:Nat) ^ 8=2 ^ 64:=by decide
   omega
  |i+1,hm,_=>simp at hm
 refine(encode_spec (ns:=[n]) (ws:=[8]) rwid8 rfl hf h2 (g1:=some k9) (g2:=some k10) (n1:=1) (n2:=1) (c1:=1) (c2:=1) rfl rfl (List.mem_cons_of_mem _ List.mem_cons_self) List.mem_cons_self).mono fun e w3 ⟨he3,h3⟩=>⟨_,_,he3,?_⟩
 try dsimp only
 rw[show encP [n] [8]=leB n 8 by simp[encP]]
 have eM:(ByteArray.mk #[82,86,84,77])=strB magM:=rfl
 have l8:=leB_len n 8
 have hl:(magM++leB n 8).length=12:=by rw[List.length_append,l8]; rfl
 rw[eM,strB_append]
 refine⟨by rw[strB_size,strB_size,l8]; decide,?_⟩
 exact(seal_spec (strB (magM++leB n 8)) 64 (by rw[strB_size,hl]; omega) (by omega) w3).mono fun e w5 ⟨he5,hx5⟩=>⟨_,_,he5,rfl,h3.chg.ext.trans hx5⟩
theorem lit1 (f:Fn) (a b:Array Value):litCells Tp 171 1 [(0,.func f a b)]=some (#[.func f a b],133):=by kernel_rfl
theorem lit2 (f f':Fn) (a b a' b':Array Value):litCells Tp 171 2 [(0,.func f a b),(1,.func f' a' b')]=some (#[.func f a b,.func f' a' b'],133):=by kernel_rfl
theorem lit3 (f f' f'':Fn) (a b a' b' a'' b'':Array Value):litCells Tp 171 3 [(0,.func f a b),(1,.func f' a' b'),(2,.func f'' a'' b'')]=some (#[.func f a b,.func f' a' b',.func f'' a'' b''],133):=by kernel_rfl
theorem Stp.one (q:Nat) (s:Stp):(s.val q).oneCell'=true:=by cases s<;>rfl
section
variable {q:Nat}{a:AD}{F:List Nat}{w0 w:World}{X Δ:List A}
theorem Dr.lit (h:Dr q a F w0 w X){t:TypeId}{n:Nat}{parts:List (Nat×Value)}{c:Array Value}{el:TypeId}(hc:litCells Tp t n parts=some (c,el)){K:Nat→World→Prop}(hK:∀k w',Dr q a F w0 w' (blk k c el::X)→K k w'):LitS Tp t n parts w K:=by
 unfold LitS
 rw[hc]
 exact Dr.alloc h hK
theorem Dr.back {Y:List A}(h:Dr q a F w0 w (Y++X)):Dr q a F w0 w X:=by
 induction Y with
 |nil=>exact h
 |cons y Y ih=>exact ih (Dr.dropX h)
theorem Dr.app {g:Option Nat}{n cap k:Nat}{xs:List Value}{c:Array Value}(h:Dr q a F w0 w X) (hm:blk k c 133∈X) (hk:Pick (rowP 133 1 g n cap xs) X Δ) (hv:∀u∈c.toList,u.oneCell'=true) (hn:n+c.size≤1000000):
  ∃g' cap' w',(builtin .append #[171,171] 171 #[false,false] #[.slice (ptr g) n cap,.slice (some ⟨k,0,none⟩) c.size c.size]).run Tp w=.ok (.value (.slice (ptr g') (n+c.size) cap')) w'∧Dr q a F w0 w' (rowP 133 1 g' (n+c.size) cap' (xs++c.toList)::Δ):=by
 obtain⟨D,hD,hA,hT⟩:=h
 have hby:decide ((Tryz.t133).bytes≤1000000)=true:=by kernel_rfl
 have hby':=of_decide_eq_true hby
 have hmul:(n+c.size)*(Tryz.t133).bytes≤1000000*1000000:=Nat.mul_le_mul (by omega) hby'
 obtain⟨g',cap',w',hr,hT'⟩:=append_t (P:=Tp) (t:=171) (ty:=171) (e:=133) (i:=Tryz.t133) (z:=.nilFunc) (size:=1) #[false,false] (by kernel_rfl) (by kernel_rfl) (by kernel_rfl) (by kernel_rfl) (by kernel_rfl) hT (hk.app (drvL D)) (a:=⟨k,0,none⟩) (m:=c.size) (c:=c.size) (news:=c.toList) (by rw[Array.length_toList,Nat.mul_one]) (fun j u hu=>by
   rw[addr_add,Nat.zero_add]
   exact hT.ld (List.mem_append_left _ hm) (by simpa using hu)) hv (by simp only[maxLen]; omega) (by omega)
 exact⟨g',cap',w',hr,D,hD,hA,hT'⟩
end
def zS:ByteArray:=strB (List.replicate 64 0)
def slotOps (n:Nat):List Op:=(List.range n).map fun(i:Nat)=>some (4+41*(i:Int),zS)
def fmtOps (n:Nat):List Op:=slotOps n++[some (3,strB (markB 0)),none]
def formatF (a:AD):AD×Int:=if slotsN (a.safe.length:Int)=0 then (a,1) else runS a (fmtOps (slotsN (a.safe.length:Int)).toNat)
theorem slotOps_next (n:Nat):slotOps (n+1)=slotOps n++[some (4+41*(n:Int),zS)]:=by
 unfold slotOps; rw[List.range_succ,List.map_append]; rfl
section
variable {q:Nat}{a:AD}{F:List Nat}{w0 w:World}{X:List A}
theorem rgsectors_spec (h:Dr q a F w0 w X):Ret Tp 73 #[.pointer (some ⟨q,0,none⟩)] w (.int .i64 (a.safe.length:Int)):=by
 obtain⟨D,rfl,hA,hT⟩:=h
 refine ret_of (drive_Drive_Sectors_calls ?_)
 unfold drive_Drive_Sectors
 refine⟨_,rfl,_,_,_,hT.ld (b:=D.p) (List.mem_append_right _ (List.mem_append_left _ List.mem_cons_self)) rfl,?_,Ext.refl w⟩
 rw[hA.safe]
theorem Dr.nilRow (h:Dr q a F w0 w X) (e:TypeId) (size:Nat):Dr q a F w0 w (rowP e size none 0 0 []::X):=by
 obtain⟨D,hD,hA,hT⟩:=h
 exact⟨D,hD,hA,T.nilRow hT _ _⟩
theorem format_spec (h:Dr q a F w0 w X){N:Nat}(hF:a.Few N) (hN:N+200≤1000000) (hlen:a.safe.length≤4096):
  Calls Tp 40 #[.pointer (some ⟨q,0,none⟩)] w fun e w'=>e=.returned (.int .i64 (formatF a).2)∧Dr q (formatF a).1 F w0 w' X:=by
 refine rq (ring_Format_calls ?_)
 unfold ring_Format
 refine(rgsectors_spec h).mono fun e w1 ⟨he1,hx1⟩=>⟨_,he1,?_⟩
 refine(slots_spec (a.safe.length:Int) (by omega) (by omega) w1).mono fun e w2 ⟨he2,hx2⟩=>⟨_,he2,?_⟩
 have h2:=(h.quiet hx1).quiet hx2
 obtain⟨n,hn⟩:∃n:Nat,slotsN (a.safe.length:Int)=(n:Int):=⟨(slotsN (a.safe.length:Int)).toNat,by unfold slotsN; omega⟩
 have hn99:n≤99:=by unfold slotsN at hn; omega
 have hf:formatF a=if (n:Int)=0 then (a,1) else runS a (fmtOps n):=by unfold formatF; rw[hn]; rfl
 try dsimp only
 rw[hn,hf]
 refine⟨beq_t fun h0=>by rw[if_pos h0]; exact⟨rfl,h2⟩,beq_f fun hne=>?_⟩
 rw[if_neg hne]
 refine⟨fun vs w'=>∃(i:Nat) (g:Option Nat) (cap:Nat) (l:List Stp) (Y:List A),vs=[.slice (ptr g) i cap,.int .i64 (i:Int)]∧i≤n∧l.length=i∧l.map Stp.op=slotOps i∧(∀s∈l,∀x∈s.own q,x∈Y)∧Dr q a F w0 w' (rowP 133 1 g i cap (l.map (Stp.val q))::(Y++X)),fun vs _=>match vs with|[_,.int _ i]=>(n-i).toNat|_=>0,⟨0,none,0,[],[],rfl,by omega,rfl,rfl,fun s hs=>by simp at hs,Dr.nilRow h2 _ _⟩,?_⟩
 rintro vs w3 ⟨i,g,cap,l,Y,rfl,hi,hli,hlo,hown,h3⟩
 refine⟨_,_,_,_,rfl,dec_t fun hlt=>?_,dec_f fun hge=>?_⟩
 ·have hlt:i<n:=by omega
  refine(repeat0_spec 64 (by decide) w3).mono fun e w4 ⟨he4,hx4⟩=>⟨_,he4,?_⟩
  have e41:IntKind.i64.wrap (4+IntKind.i64.wrap (41*(i:Int)))=4+41*(i:Int):=by
   rw[wrap64 (41*(i:Int)) (by omega) (by omega),wrap64 _ (by omega) (by omega)]
  rw[e41]
  refine(written_spec (h3.quiet hx4) (4+41*(i:Int)) zS).mono fun e w5 ⟨k3,k4,k5,he5,h5⟩=>⟨_,he5,?_⟩
  refine Dr.lit h5 (lit1 _ _ _) fun k22 w6 h6=>?_
  have h6:Dr q a F w0 w6 (blk k22 #[(Stp.wr (4+41*(i:Int)) zS k3 k4 k5).val q] 133::blk k3 #[.pointer (some ⟨q,0,none⟩)] 35::blk k4 #[.int .i64 (4+41*(i:Int))] 3::blk k5 #[.string zS] 9::rowP 133 1 g i cap (l.map (Stp.val q))::(Y++X)):=h6
  obtain⟨g7,c7,w7,hr7,h7⟩:=Dr.app h6 List.mem_cons_self (.tail (.tail (.tail (.tail .head)))) (fun u hu=>by
   have hu:u∈[(Stp.wr (4+41*(i:Int)) zS k3 k4 k5).val q]:=hu
   rw[List.mem_singleton.1 hu]; exact Stp.one _ _) (by show i+1≤1000000; omega)
  have em:l.map (Stp.val q)++(#[(Stp.wr (4+41*(i:Int)) zS k3 k4 k5).val q]:Array Value).toList=(l++[Stp.wr (4+41*(i:Int)) zS k3 k4 k5]).map (Stp.val q):=by rw[List.map_append]; rfl
  rw[em]at h7
  refine⟨_,_,_,w7,hr7,⟨i+1,g7,c7,l++[Stp.wr (4+41*(i:Int)) zS k3 k4 k5],blk k22 #[(Stp.wr (4+41*(i:Int)) zS k3 k4 k5).val q] 133::((Stp.wr (4+41*(i:Int)) zS k3 k4 k5).own q++Y),?_,by omega,by rw[List.length_append,hli]; rfl,?_,?_,h7⟩,?_⟩
  ·rw[wrap64 _ (by omega) (by omega)]; rfl
  ·rw[List.map_append,hlo,slotOps_next]; rfl
  ·intro s hs x hx
   rcases List.mem_append.1 hs with hs|hs
   ·exact List.mem_cons_of_mem _ (List.mem_append_right _ (hown s hs x hx))
   ·rw[List.mem_singleton.1 hs]at hx
    exact List.mem_cons_of_mem _ (List.mem_append_left _ hx)
  ·show((n:Int)-IntKind.i64.wrap ((i:Int)+1)).toNat<((n:Int)-(i:Int)).toNat
   rw[wrap64 _ (by omega) (by omega)]; omega
 ·have hie:i=n:=by omega
  subst hie
  refine(mark_spec (n:=0) (by decide) w3).mono fun e w8 ⟨he8,hx8⟩=>⟨_,he8,?_⟩
  refine(written_spec (h3.quiet hx8) 3 (strB (markB 0))).mono fun e w9 ⟨k3,k4,k5,he9,h9⟩=>⟨_,he9,?_⟩
  refine Dr.lit h9 (lit2 _ _ _ _ _ _) fun k31 w10 h10=>?_
  have h10:Dr q a F w0 w10 (blk k31 #[(Stp.wr 3 (strB (markB 0)) k3 k4 k5).val q,Stp.fl.val q] 133::blk k3 #[.pointer (some ⟨q,0,none⟩)] 35::blk k4 #[.int .i64 3] 3::blk k5 #[.string (strB (markB 0))] 9::rowP 133 1 g i cap (l.map (Stp.val q))::(Y++X)):=h10
  obtain⟨g11,c11,w11,hr11,h11⟩:=Dr.app h10 List.mem_cons_self (.tail (.tail (.tail (.tail .head)))) (fun u hu=>by
   have hu:u∈[(Stp.wr 3 (strB (markB 0)) k3 k4 k5).val q,Stp.fl.val q]:=hu
   simp only[List.mem_cons,List.not_mem_nil,or_false]at hu
   rcases hu with rfl|rfl<;>exact Stp.one _ _) (by show i+2≤1000000; omega)
  have em:l.map (Stp.val q)++(#[(Stp.wr 3 (strB (markB 0)) k3 k4 k5).val q,Stp.fl.val q]:Array Value).toList=(l++[Stp.wr 3 (strB (markB 0)) k3 k4 k5,Stp.fl]).map (Stp.val q):=by rw[List.map_append]; rfl
  rw[em]at h11
  refine⟨_,_,_,w11,hr11,?_⟩
  have hl2:(l++[Stp.wr 3 (strB (markB 0)) k3 k4 k5,Stp.fl]).length=i+2:=by rw[List.length_append,hli]; rfl
  have hop:(l++[Stp.wr 3 (strB (markB 0)) k3 k4 k5,Stp.fl]).map Stp.op=fmtOps i:=by rw[List.map_append,hlo]; rfl
  have h11:Dr q a F w0 w11 (rowP 133 1 g11 (i+2) c11 ((l++[Stp.wr 3 (strB (markB 0)) k3 k4 k5,Stp.fl]).map (Stp.val q))::blk k31 #[(Stp.wr 3 (strB (markB 0)) k3 k4 k5).val q,Stp.fl.val q] 133::((Stp.wr 3 (strB (markB 0)) k3 k4 k5).own q++(Y++X))):=h11
  rw[←hl2]at h11
  have hst:=steps_spec h11 List.mem_cons_self (fun s hs x hx=>by
   rcases List.mem_append.1 hs with hs|hs
   ·exact List.mem_cons_of_mem _ (List.mem_cons_of_mem _ (List.mem_append_right _ (List.mem_append_left _ (hown s hs x hx))))
   ·simp only[List.mem_cons,List.not_mem_nil,or_false]at hs
    rcases hs with rfl|rfl
    ·exact List.mem_cons_of_mem _ (List.mem_cons_of_mem _ (List.mem_append_left _ hx))
    ·simp[Stp.own]at hx) hF (by rw[hl2]; omega)
  rw[hop,hl2]at hst
  exact hst.mono fun e w12 ⟨he12,h12⟩=>⟨_,he12,rfl,Dr.back (Dr.back (Dr.dropX (Dr.dropX h12)))⟩
end
def rgC (q S t n:Nat):Array Value:=#[.pointer (some ⟨q,0,none⟩),.int .i64 (S:Int),.int .u64 (t:Int),.int .u64 (n:Int)]
def leftF (S t n:Nat):Int:=IntKind.i64.wrap ((S:Int)-IntKind.i64.wrap (IntKind.u64.wrap (IntKind.u64.wrap ((n:Int)-(t:Int))-1)))
theorem left_val {S t n:Nat}(hS:S≤1000000) (h:t<n) (h1:n≤t+1000000):leftF S t n=(S:Int)-((n:Int)-t-1):=by
 unfold leftF
 rw[wrapU64,wrapU64,Int.emod_eq_of_lt (by omega) (by omega),Int.emod_eq_of_lt (by omega) (by omega),wrap64 ((n:Int)-t-1) (by omega) (by omega),wrap64 _ (by omega) (by omega)]
section
variable {q r S t n:Nat}{a:AD}{F:List Nat}{w0 w:World}{X:List A}
theorem Dr.rdrew (h:Dr q a F w0 w X):Dr q a F w0 w.drew X:=by
 obtain⟨D,hD,hA,hT⟩:=h
 exact⟨D,hD,hA,hT.drew⟩
theorem Dr.blkRow {k m:Nat}{e:TypeId}{c:Array Value}{xs:List Value}(h:Dr q a F w0 w (blk k c e::X)) (hc:c.toList=xs) (hn:c.size=m) (hm:m≤1000000000):Dr q a F w0 w (rowP e 1 (some k) m m xs::X):=by
 obtain⟨D,hD,hA,hT⟩:=h
 exact⟨D,hD,hA,blk_row hT hc hn hm⟩
theorem rgfirst_spec (h:Dr q a F w0 w X) (hm:blk r (rgC q S t n) 128∈X) (h1:1≤S) (h2:S≤1000000) (m:Nat):Ret Tp 102 #[.pointer (some ⟨r,0,none⟩),.int .u64 (m:Int)] w (.int .i64 (4+41*((m%S:Nat):Int))):=by
 refine ret_of (ring_Ring_first_calls ?_)
 unfold ring_Ring_first
 refine⟨_,rfl,(S:Int),by rw[addr_add]; exact h.under.ld (c:=rgC q S t n) hm rfl,?_,?_,Ext.refl w⟩
 ·rw[wrapU64]; omega
 ·have hlt:m%S<S:=Nat.mod_lt _ (by omega)
  have e0:IntKind.u64.wrap (S:Int)=(S:Int):=by rw[wrapU64]; omega
  rw[e0,Int.tmod_eq_emod_of_nonneg (by omega),←Int.natCast_emod]
  generalize m%S=j at hlt
  rw[wrap64 (j:Int) (by omega) (by omega),wrap64 (41*(j:Int)) (by omega) (by omega),wrap64 _ (by omega) (by omega)]
theorem left_spec (h:Dr q a F w0 w X) (hm:blk r (rgC q S t n) 128∈X):Ret Tp 23 #[.pointer (some ⟨r,0,none⟩)] w (.int .i64 (leftF S t n)):=by
 refine ret_of (ring_Ring_Left_calls ?_)
 unfold ring_Ring_Left
 exact⟨fun w'=>Dr q a F w0 w' X,Dr.rdrew h,_,rfl,(S:Int),fun w' h'=>by rw[addr_add]; exact h'.under.ld (c:=rgC q S t n) hm rfl,_,rfl,(n:Int),fun w' h'=>by rw[addr_add]; exact h'.under.ld (c:=rgC q S t n) hm rfl,_,rfl,(t:Int),fun w' h'=>by rw[addr_add]; exact h'.under.ld (c:=rgC q S t n) hm rfl,rfl,⟨rfl,rfl,Nat.le_refl _,fun b _=>rfl⟩⟩
end
def loadOps (at_:Int) (L:List (List UInt8)):Nat→List Op
 |0=>[]
 |i+1=>loadOps at_ L i++[some (at_+1+(i:Int),strB (L.getD i []))]
def appOps (S n:Nat) (row:Int) (l:List RP):List Op:=
 loadOps (4+41*((n%S:Nat):Int)) (datas l) l.length++[none,some (4+41*((n%S:Nat):Int),strB (headR n row l (sumR l))),none]
section
variable {q r S t n:Nat}{a:AD}{F:List Nat}{w0 w:World}{X:List A}
theorem append_busy (h:Dr q a F w0 w X) (hm:blk r (rgC q S t n) 128∈X) (hb:leftF S t n<1) (row:Int) (p:Option Addr) (m c:Nat):
  Calls Tp 44 #[.pointer (some ⟨r,0,none⟩),.int .i64 row,.slice p m c] w fun e w'=>e=.returned (.tuple #[.int .u64 0,.int .i64 130])∧Dr q a F w0 w' X:=by
 refine rq (ring_Ring_Append_calls ?_)
 unfold ring_Ring_Append
 exact(left_spec h hm).mono fun e w1 ⟨he1,hx1⟩=>⟨_,he1,dec_t fun _=>⟨rfl,h.quiet hx1⟩,dec_f fun hn=>absurd hb hn⟩
theorem Dr.intoT {Y:List A}{K:Prop}(h:Dr q a F w0 w X) (hK:∀Γ,T F w0 w (X++Γ)→(∀w' Y,T F w0 w' (Y++(X++Γ))→Dr q a F w0 w' (Y++X))→K):K:=by
 obtain⟨D,hD,hA,hT⟩:=h
 exact hK _ hT fun w' Y h'=>⟨D,hD,hA,by rw[List.append_assoc]; exact h'⟩
theorem parts_under {w':World}{Δ Γ:List A}(h':T F w0 w' (Δ++(X++Γ))):T F w0 w' (Δ++X):=by
 rw[←List.append_assoc]at h'
 exact T.dropAll (h'.swap List.perm_append_comm)
theorem append_bad_p (h:Dr q a F w0 w X) (hm:blk r (rgC q S t n) 128∈X) (hb:¬leftF S t n<1){row:Int}{p:Option Addr}{c:Nat}{l:List RP}(hp:∀(w':World) (Δ:List A),T F w0 w' (Δ++X)→partsAt w' p l) (hl:l.length≤1000000) (hn:¬(PlacedR row l∧LoadedR l)):
  Calls Tp 44 #[.pointer (some ⟨r,0,none⟩),.int .i64 row,.slice p l.length c] w fun e w'=>e=.returned (.tuple #[.int .u64 0,.int .i64 1])∧Dr q a F w0 w' X:=by
 refine rq (ring_Ring_Append_calls ?_)
 unfold ring_Ring_Append
 refine(left_spec h hm).mono fun e w1 ⟨he1,hx1⟩=>⟨_,he1,dec_t fun hh=>absurd hh hb,dec_f fun _=>?_⟩
 have h1:=h.quiet hx1
 refine⟨_,rfl,(n:Int),by rw[addr_add]; exact h1.under.ld (c:=rgC q S t n) hm rfl,?_⟩
 refine Dr.intoT (Y:=[]) h1 fun Γ hT hback=>?_
 exact(rencode_bad_p (seq:=n) (row:=row) hT (fun w' Δ h'=>hp w' Δ (parts_under h')) hl hn).mono fun e w2 ⟨he2,h2⟩=>⟨_,_,_,_,_,he2,yes rfl ⟨rfl,hback w2 [] h2⟩⟩
end
section
variable {q r S t n:Nat}{a:AD}{F:List Nat}{w0 w:World}{X:List A}
theorem append_good_p (h:Dr q a F w0 w (blk r (rgC q S t n) 128::X)){N:Nat}(hF:a.Few N) (hN:N+100≤1000000) (h1S:1≤S) (h2S:S≤1000000) (hs:n<2 ^ 64) (hb:¬leftF S t n<1){row:Int}{p:Option Addr}{c:Nat}{l:List RP}(hp:∀(w':World) (Δ:List A),T F w0 w' (Δ++X)→partsAt w' p l) (hP:PlacedR row l) (hL:LoadedR l):
  Calls Tp 44 #[.pointer (some ⟨r,0,none⟩),.int .i64 row,.slice p l.length c] w fun e w'=>e=.returned (.tuple #[.int .u64 (if (runS a (appOps S n row l)).2=0 then (n:Int) else 0),.int .i64 (runS a (appOps S n row l)).2])∧Dr q (runS a (appOps S n row l)).1 F w0 w' (blk r (rgC q S t (if (runS a (appOps S n row l)).2=0 then (n+1)%2 ^ 64 else n)) 128::X):=by
 refine rq (ring_Ring_Append_calls ?_)
 unfold ring_Ring_Append
 have hl40:=hP.2.2.2.1
 refine(left_spec h List.mem_cons_self).mono fun e w1 ⟨he1,hx1⟩=>⟨_,he1,dec_t fun hh=>absurd hh hb,dec_f fun _=>?_⟩
 have h1:=h.quiet hx1
 refine⟨_,rfl,(n:Int),by rw[addr_add]; exact h1.under.ld (c:=rgC q S t n) List.mem_cons_self rfl,?_⟩
 refine Dr.intoT (Y:=[]) h1 fun Γ hT hback=>?_
 refine(rencode_good_p (seq:=n) (row:=row) hT hs (fun w' Δ h'=>hp w' (Δ++[_]) (by rw[List.append_assoc]; exact parts_under h')) hP hL).mono fun e w2 ⟨gs,cs,he2,hT2⟩=>⟨_,_,_,_,_,he2,no rfl ?_⟩
 have h2:Dr q a F w0 w2 (rowP 9 1 gs l.length cs (strV (datas l))::blk r (rgC q S t n) 128::X):=hback w2 [_] hT2
 refine(rgfirst_spec h2 (List.mem_cons_of_mem _ List.mem_cons_self) h1S h2S n).mono fun e w3 ⟨he3,hx3⟩=>⟨_,he3,?_⟩
 have h3:=h2.quiet hx3
 have hap:appOps S n row l=loadOps (4+41*((n%S:Nat):Int)) (datas l) l.length++[none,some (4+41*((n%S:Nat):Int),strB (headR n row l (sumR l))),none]:=rfl
 obtain⟨at_,hat,hat0,hat1⟩:∃x:Int,4+41*((n%S:Nat):Int)=x∧0≤x∧x≤50000000:=⟨_,rfl,by omega,by have:n%S<S:=Nat.mod_lt _ (by omega); omega⟩
 try dsimp only
 rw[hat]at hap
 rw[hat]
 refine⟨fun vs w'=>∃(i:Nat) (g:Option Nat) (cap:Nat) (ls:List Stp) (Y:List A),vs=[.slice (ptr g) i cap,.int .i64 (i:Int)]∧i≤l.length∧ls.length=i∧ls.map Stp.op=loadOps at_ (datas l) i∧(∀s∈ls,∀x∈s.own q,x∈Y)∧Dr q a F w0 w' (rowP 133 1 g i cap (ls.map (Stp.val q))::(Y++(rowP 9 1 gs l.length cs (strV (datas l))::blk r (rgC q S t n) 128::X))),fun vs _=>match vs with|[_,.int _ i]=>(l.length-i).toNat|_=>0,⟨0,none,0,[],[],rfl,by omega,rfl,rfl,fun s hs=>by simp at hs,Dr.nilRow h3 _ _⟩,?_⟩
 rintro vs w4 ⟨i,g4,c4,ls,Y,rfl,hi,hli,hlo,hown,h4⟩
 have mr:∀{y:A},y∈(blk r (rgC q S t n) 128::X)→y∈(rowP 133 1 g4 i c4 (ls.map (Stp.val q))::(Y++(rowP 9 1 gs l.length cs (strV (datas l))::blk r (rgC q S t n) 128::X))):=fun hy=>List.mem_cons_of_mem _ (List.mem_append_right _ (List.mem_cons_of_mem _ hy))
 refine⟨_,_,_,_,rfl,dec_t fun hlt=>?_,dec_f fun hge=>?_⟩
 ·have hlt:i<l.length:=by omega
  obtain⟨bs,rfl,hcs⟩:=T.row1 (i:=i) (v:=.string (strB ((datas l).getD i []))) h4.under (List.mem_cons_of_mem _ (List.mem_append_right _ List.mem_cons_self)) (by
   unfold strV; rw[List.getElem?_map,List.getD_eq_getElem?_getD,List.getElem?_eq_getElem (by rw[datas_len]; exact hlt)]; rfl)
  refine⟨_,rfl,by omega,by omega,_,by rw[Int.toNat_natCast]; exact hcs,_,rfl,_,h4.under.ld (c:=rgC q S t n) (mr List.mem_cons_self) rfl,?_⟩
  have e41:IntKind.i64.wrap (IntKind.i64.wrap (at_+1)+(i:Int))=at_+1+(i:Int):=by
   rw[wrap64 (at_+1) (by omega) (by omega),wrap64 _ (by omega) (by omega)]
  rw[e41]
  refine(written_spec h4 (at_+1+(i:Int)) (strB ((datas l).getD i []))).mono fun e w5 ⟨k3,k4,k5,he5,h5⟩=>⟨_,he5,?_⟩
  refine Dr.lit h5 (lit1 _ _ _) fun k22 w6 h6=>?_
  generalize hst:Stp.wr (at_+1+(i:Int)) (strB ((datas l).getD i [])) k3 k4 k5=st at *
  have h6:Dr q a F w0 w6 (blk k22 #[st.val q] 133::(st.own q++(rowP 133 1 g4 i c4 (ls.map (Stp.val q))::(Y++(rowP 9 1 (some bs) l.length cs (strV (datas l))::blk r (rgC q S t n) 128::X))))):=by subst hst; exact h6
  obtain⟨g7,c7,w7,hr7,h7⟩:=Dr.app (Δ:=blk k22 #[st.val q] 133::(st.own q++(Y++(rowP 9 1 (some bs) l.length cs (strV (datas l))::blk r (rgC q S t n) 128::X)))) h6 List.mem_cons_self (by subst hst; exact .tail (.tail (.tail (.tail .head)))) (fun u hu=>by
   have hu:u∈[st.val q]:=hu
   rw[List.mem_singleton.1 hu]; exact Stp.one _ _) (by show i+1≤1000000; omega)
  have em:ls.map (Stp.val q)++(#[st.val q]:Array Value).toList=(ls++[st]).map (Stp.val q):=by rw[List.map_append]; rfl
  rw[em]at h7
  refine⟨_,_,_,w7,by subst hst; exact hr7,⟨i+1,g7,c7,ls++[st],blk k22 #[st.val q] 133::(st.own q++Y),?_,by omega,by rw[List.length_append,hli]; rfl,?_,?_,by rw[List.cons_append,List.append_assoc]; exact h7⟩,?_⟩
  ·rw[wrap64 _ (by omega) (by omega)]; rfl
  ·rw[List.map_append,hlo,←hst]; rfl
  ·intro s hs x hx
   rcases List.mem_append.1 hs with hs|hs
   ·exact List.mem_cons_of_mem _ (List.mem_append_right _ (hown s hs x hx))
   ·rw[List.mem_singleton.1 hs]at hx
    exact List.mem_cons_of_mem _ (List.mem_append_left _ hx)
  ·show((l.length:Int)-IntKind.i64.wrap ((i:Int)+1)).toNat<((l.length:Int)-(i:Int)).toNat
   rw[wrap64 _ (by omega) (by omega)]; omega
 ·have hie:i=l.length:=by omega
  subst hie
  have rd:∀w',(∃a' Y,Dr q a' F w0 w' (Y++blk r (rgC q S t n) 128::X))→w'.cell? ⟨r,0,none⟩=some (.pointer (some ⟨q,0,none⟩)):=fun w' ⟨a',Y,h'⟩=>h'.under.ld (c:=rgC q S t n) (List.mem_append_right _ List.mem_cons_self) rfl
  have hd:=Dr.rdrew h4
  have hz:∀{w':World} {a':AD} {Y':List A} {y1:A},Dr q a' F w0 w' (Y'++(y1::(Y++(rowP 9 1 gs l.length cs (strV (datas l))::blk r (rgC q S t n) 128::X))))→∃a' Y,Dr q a' F w0 w' (Y++blk r (rgC q S t n) 128::X):=fun {w' a' Y' y1} hh=>⟨a',Y'++(y1::(Y++[rowP 9 1 gs l.length cs (strV (datas l))])),by simpa using hh⟩
  refine⟨fun w'=>∃a' Y,Dr q a' F w0 w' (Y++blk r (rgC q S t n) 128::X),hz (Y':=[]) hd,_,rfl,_,rd,_,rfl,_,rd,?_⟩
  refine(written_spec hd at_ (strB (headR n row l (sumR l)))).mono fun e w8 ⟨k3,k4,k5,he8,h8⟩=>⟨_,he8,hz h8,_,rfl,_,rd,?_⟩
  refine Dr.lit h8 (lit3 _ _ _ _ _ _ _ _ _) fun k77 w9 h9=>⟨hz (Y':=_::(Stp.wr at_ (strB (headR n row l (sumR l))) k3 k4 k5).own q) h9,?_⟩
  generalize hst:Stp.wr at_ (strB (headR n row l (sumR l))) k3 k4 k5=st at *
  have h9:Dr q a F w0 w9 (blk k77 #[Stp.fl.val q,st.val q,Stp.fl.val q] 133::(st.own q++(rowP 133 1 g4 ls.length c4 (ls.map (Stp.val q))::(Y++(rowP 9 1 gs l.length cs (strV (datas l))::blk r (rgC q S t n) 128::X))))):=by subst hst; rw[hli]; exact h9
  obtain⟨g11,c11,w10,hr10,h10⟩:=Dr.app (Δ:=blk k77 #[Stp.fl.val q,st.val q,Stp.fl.val q] 133::(st.own q++(Y++(rowP 9 1 gs l.length cs (strV (datas l))::blk r (rgC q S t n) 128::X)))) h9 List.mem_cons_self (by subst hst; exact .tail (.tail (.tail (.tail .head)))) (fun u hu=>by
   have hu:u∈[Stp.fl.val q,st.val q,Stp.fl.val q]:=hu
   simp only[List.mem_cons,List.not_mem_nil,or_false]at hu
   rcases hu with rfl|rfl|rfl<;>exact Stp.one _ _) (by show ls.length+3≤1000000; omega)
  have em:ls.map (Stp.val q)++(#[Stp.fl.val q,st.val q,Stp.fl.val q]:Array Value).toList=(ls++[Stp.fl,st,Stp.fl]).map (Stp.val q):=by rw[List.map_append]; rfl
  rw[em]at h10
  have hl3:(ls++[Stp.fl,st,Stp.fl]).length=ls.length+3:=by rw[List.length_append]; rfl
  have hop:(ls++[Stp.fl,st,Stp.fl]).map Stp.op=appOps S n row l:=by rw[List.map_append,hlo,hap,←hst]; rfl
  have fold:∀{w':World} {a':AD} {y1 y2:A},Dr q a' F w0 w' (y1::y2::(st.own q++(Y++(rowP 9 1 gs l.length cs (strV (datas l))::blk r (rgC q S t n) 128::X))))→Dr q a' F w0 w' ((y1::y2::(st.own q++(Y++[rowP 9 1 gs l.length cs (strV (datas l))])))++blk r (rgC q S t n) 128::X):=fun hh=>by simpa using hh
  refine⟨_,_,_,w10,by subst hst; rw[hli]at hr10; exact hr10,⟨a,_,fold h10⟩,?_⟩
  have h10:Dr q a F w0 w10 (rowP 133 1 g11 (ls.length+3) c11 ((ls++[Stp.fl,st,Stp.fl]).map (Stp.val q))::blk k77 #[Stp.fl.val q,st.val q,Stp.fl.val q] 133::(st.own q++(Y++(rowP 9 1 gs l.length cs (strV (datas l))::blk r (rgC q S t n) 128::X)))):=h10
  rw[←hl3]at h10
  have hsp:=steps_spec h10 List.mem_cons_self (fun s hs x hx=>by
   rcases List.mem_append.1 hs with hs|hs
   ·exact List.mem_cons_of_mem _ (List.mem_cons_of_mem _ (List.mem_append_right _ (List.mem_append_left _ (hown s hs x hx))))
   ·simp only[List.mem_cons,List.not_mem_nil,or_false]at hs
    rcases hs with rfl|rfl|rfl
    ·simp[Stp.own]at hx
    ·exact List.mem_cons_of_mem _ (List.mem_cons_of_mem _ (List.mem_append_left _ hx))
    ·simp[Stp.own]at hx) hF (by rw[hl3]; omega)
  rw[hop,hl3,hli]at hsp
  refine hsp.mono fun e w11 ⟨he11,h11⟩=>⟨_,he11,⟨_,_,fold h11⟩,?_⟩
  have h12:=Dr.back (fold h11)
  refine⟨bne_t fun hne=>?_,bne_f fun heq=>?_⟩
  ·rw[if_neg hne,if_neg hne]; exact⟨rfl,h12⟩
  ·rw[if_pos heq,if_pos heq]
   refine⟨_,rfl,(n:Int),by rw[addr_add]; exact h12.under.ld (c:=rgC q S t n) List.mem_cons_self rfl,_,rfl,?_⟩
   have eW:IntKind.u64.wrap ((n:Int)+1)=(((n+1)%2 ^ 64:Nat):Int):=by rw[wrapU64]; omega
   rw[eW,addr_add]
   exact Dr.st1 (c':=rgC q S t ((n+1)%2 ^ 64)) h12 (show 0+3<4 by decide) rfl rfl fun w13 h13=>⟨by rw[heq],h13⟩
end
theorem partOf_plB {x:RP}(h:0≤x.col∧x.col<10∧0≤x.off∧x.off<4):partOf (plB x)={ x with data:=[] }:=by
 have e:(plB x).toNat=4*x.col.toNat+x.off.toNat:=by
  unfold plB
  rw[UInt8.toNat_ofNat']
  omega
 unfold partOf
 rw[e]
 have e1:((((4*x.col.toNat+x.off.toNat) / 4:Nat)):Int)=x.col:=by omega
 have e2:((((4*x.col.toNat+x.off.toNat)%4:Nat)):Int)=x.off:=by omega
 rw[e1,e2]
theorem decH_magic {b:List UInt8}(h:b.take 4≠magJ):(decH b).2≠0:=by
 unfold decH
 split
 ·decide
 ·split
  ·decide
  ·first|decide|(rw[if_pos h]; decide)
def bare (l:List RP):List RP:=l.map fun x=>{ x with data:=[] }
theorem bare_len (l:List RP):(bare l).length=l.length:=List.length_map ..
theorem bare_plB (l:List RP):(bare l).map plB=l.map plB:=by unfold bare; rw[List.map_map]; rfl
theorem bare_head (seq:Nat) (row:Int) (l:List RP) (sum:B32):headR seq row (bare l) sum=headR seq row l sum:=by
 unfold headR; rw[bare_plB,bare_len]
theorem bare_placed {row:Int}{l:List RP}(h:PlacedR row l):PlacedR row (bare l):=by
 obtain⟨h1,h2,h3,h4,h5,h6⟩:=h
 refine⟨h1,h2,by rw[bare_len]; exact h3,by rw[bare_len]; exact h4,fun x hx=>?_,?_⟩
 ·obtain⟨y,hy,rfl⟩:=List.mem_map.1 hx
  exact h5 y hy
 ·unfold bare; rw[List.map_map]; exact h6
theorem partOf_map {l:List RP}(h:∀x∈l,0≤x.col∧x.col<10∧0≤x.off∧x.off<4):(l.map plB).map partOf=bare l:=by
 unfold bare; rw[List.map_map]
 exact List.map_congr_left fun x hx=>partOf_plB (h x hx)
theorem withD_bare {l:List RP}:withD (bare l) (datas l)=l:=by
 apply List.ext_getElem?; intro j
 rw[withD,fillN,List.getElem?_mapIdx,bare,List.getElem?_map,List.length_map]
 by_cases hj:j<l.length
 ·rw[List.getElem?_eq_getElem hj]
  simp only[Option.map_some,if_pos hj]
  rw[List.getD_eq_getElem?_getD,datas,List.getElem?_map,List.getElem?_eq_getElem hj]; rfl
 ·rw[List.getElem?_eq_none (by omega)]; rfl
theorem drop_at {A B:List UInt8}{n:Nat}(h:A.length=n):(A++B).drop n=B:=by subst h; exact List.drop_left
theorem take_at {A B:List UInt8}{n:Nat}(h:A.length=n):(A++B).take n=A:=by subst h; exact List.take_left
theorem head_parts (seq:Nat) (row:Int) (l:List RP) (sum:B32):∃r,headR seq row l sum=magJ++(leB seq 8++(leB row.toNat 2++(leB l.length 1++(leB sum.toNat 4++r)))):=by
 have key:∀(m z:List UInt8) (k:Nat),(magJ++(leB seq 8++(leB row.toNat 2++(leB l.length 1++(leB sum.toNat 4++[]))))++m++List.replicate k 0)++z=magJ++(leB seq 8++(leB row.toNat 2++(leB l.length 1++(leB sum.toNat 4++(m++(List.replicate k 0++z)))))):=fun m z k=>by simp only[List.append_assoc,List.nil_append]
 exact⟨_,key (l.map plB) (four (crcSum (padB (frontR seq row l.length sum++l.map plB) 60))) (60-(frontR seq row l.length sum++l.map plB).length)⟩
theorem decH_headR {seq:Nat}{row:Int}{l:List RP}{sum:B32}(hs:seq<2 ^ 64) (hP:PlacedR row l):decH (headR seq row l sum)=((seq,row,bare l,sum),0):=by
 have h40:=hP.2.2.2.1
 have hlen:(headR seq row l sum).length=64:=headR_len h40
 have hml:(frontR seq row l.length sum++l.map plB).length=19+l.length:=by rw[List.length_append,frontR_len,List.length_map]
 have hopen:openB (headR seq row l sum)=(padB (frontR seq row l.length sum++l.map plB) 60,true):=open_seal (n:=64) (by omega)
 have htk:(headR seq row l sum).take 60=padB (frontR seq row l.length sum++l.map plB) 60:=by
  have hp:=padB_len (l:=frontR seq row l.length sum++l.map plB) (n:=60) (by omega)
  exact take_at hp
 obtain⟨r,hr⟩:=head_parts seq row l sum
 have d4:(headR seq row l sum).drop 4=leB seq 8++(leB row.toNat 2++(leB l.length 1++(leB sum.toNat 4++r))):=by rw[hr]; exact drop_at rfl
 have d12:(headR seq row l sum).drop 12=leB row.toNat 2++(leB l.length 1++(leB sum.toNat 4++r)):=by
  have:((headR seq row l sum).drop 4).drop 8=(headR seq row l sum).drop 12:=by rw[List.drop_drop]
  rw[←this,d4]; exact drop_at (leB_len _ _)
 have d14:(headR seq row l sum).drop 14=leB l.length 1++(leB sum.toNat 4++r):=by
  have:((headR seq row l sum).drop 12).drop 2=(headR seq row l sum).drop 14:=by rw[List.drop_drop]
  rw[←this,d12]; exact drop_at (leB_len _ _)
 have d15:(headR seq row l sum).drop 15=leB sum.toNat 4++r:=by
  have:((headR seq row l sum).drop 14).drop 1=(headR seq row l sum).drop 15:=by rw[List.drop_drop]
  rw[←this,d14]; exact drop_at (leB_len _ _)
 have q8:(256:Nat) ^ 8=2 ^ 64:=by decide
 have n1:leN (((headR seq row l sum).drop 4).take 8)=seq:=by rw[d4,take_at (leB_len _ _)]; exact leN_leB _ _ (by omega)
 have n2:leN (((headR seq row l sum).drop 12).take 2)=row.toNat:=by
  rw[d12,take_at (leB_len _ _)]; exact leN_leB _ _ (by have:=hP.1; have:=hP.2.1; omega)
 have n3:leN (((headR seq row l sum).drop 14).take 1)=l.length:=by rw[d14,take_at (leB_len _ _)]; exact leN_leB _ _ (by omega)
 have n4:leN (((headR seq row l sum).drop 15).take 4)=sum.toNat:=by rw[d15,take_at (leB_len _ _)]; exact leN_leB _ _ (by have:=sum.isLt; omega)
 have ho:headOf (headR seq row l sum)=(seq,row,bare l,sum):=by
  unfold headOf
  rw[n1,n2,n3,n4,htk]
  have e1:((padB (frontR seq row l.length sum++l.map plB) 60).drop 19).take l.length=l.map plB:=by
   unfold padB
   rw[List.append_assoc,drop_at (frontR_len ..),take_at (List.length_map ..)]
  rw[e1,partOf_map hP.2.2.2.2.1]
  have e2:((row.toNat:Nat):Int)=row:=by have:=hP.1; omega
  have e3:BitVec.ofNat 32 sum.toNat=sum:=by simp
  rw[e2,e3]
 have hm:(headR seq row l sum).take 4=magJ:=by rw[hr]; exact take_at rfl
 unfold decH
 rw[if_neg (by omega),if_neg (by rw[hopen]; simp),if_neg (by rw[hm]; simp),ho,if_pos ⟨bare_placed hP,bare_head ..⟩]
theorem decR_headR {seq:Nat}{row:Int}{l:List RP}(hs:seq<2 ^ 64) (hP:PlacedR row l) (hL:LoadedR l):decR (headR seq row l (sumR l)) (datas l)=((seq,row,l),0):=by
 unfold decR
 rw[decH_headR hs hP]
 rw[if_neg (by simp),if_neg (by simp[bare_len,datas_len])]
 show(if ¬LoadedR (withD (bare l) (datas l)) then _ else if crcSum (datas l).flatten≠sumR l then _ else ((seq,row,withD (bare l) (datas l)),0))=_
 rw[withD_bare,if_neg (fun h=>h hL),if_neg (fun h=>h rfl)]
theorem mark_open (n:Nat):openB (markB n)=(padB (magM++leB n 8) 60,true):=open_seal (n:=64) (by rw[List.length_append,leB_len]; decide)
theorem mark_dec {n:Nat}(hn:n<2 ^ 64):leN (((openB (markB n)).1.drop 4).take 8)=n:=by
 rw[mark_open]
 show leN (((padB (magM++leB n 8) 60).drop 4).take 8)=n
 unfold padB
 rw[List.append_assoc,drop_at (A:=magM) (n:=4) rfl,take_at (leB_len _ _)]
 exact leN_leB _ _ (by have q8:(256:Nat) ^ 8=2 ^ 64:=by decide
                       omega)
theorem zero_head:(decH (List.replicate 64 0)).2≠0:=decH_magic (by decide)
def ratF (S n:Nat):Int:=4+41*((n%S:Nat):Int)
def readsF (a:AD) (at_:Int) (k:Nat):List (List UInt8):=(List.range k).map fun(i:Nat)=>(a.read (at_+1+(i:Int))).1.data.toList
def recF (a:AD) (S n:Nat):RcV×Bool:=
 if (a.read (ratF S n)).2≠0 then (zRc,false)
 else if (decH (a.read (ratF S n)).1.data.toList).2≠0∨(decH (a.read (ratF S n)).1.data.toList).1.1≠n then (zRc,false)
 else if ∃i,i<(decH (a.read (ratF S n)).1.data.toList).1.2.2.1.length∧(a.read (ratF S n+1+(i:Int))).2≠0 then (zRc,false)
 else ((decR (a.read (ratF S n)).1.data.toList (readsF a (ratF S n) (decH (a.read (ratF S n)).1.data.toList).1.2.2.1.length)).1,decide ((decR (a.read (ratF S n)).1.data.toList (readsF a (ratF S n) (decH (a.read (ratF S n)).1.data.toList).1.2.2.1.length)).2=0))
def recsF (a:AD) (S:Nat):Nat→Nat→List RcV
 |0,_=>[]
 |k+1,n=>if (recF a S n).2 then (recF a S n).1::recsF a S k ((n+1)%2 ^ 64) else []
def openF (a:AD):Nat×Int:=
 if (a.read 3).2≠0 then (0,(a.read 3).2)
 else if (openB (a.read 3).1.data.toList).2=false∨slotsN (a.safe.length:Int)=0 then (0,200)
 else if markB (leN (((openB (a.read 3).1.data.toList).1.drop 4).take 8))≠(a.read 3).1.data.toList then (0,200)
 else (leN (((openB (a.read 3).1.data.toList).1.drop 4).take 8),0)
def rxV (d:RcV×Bool) (g:Option Nat) (cap:Nat):Value:=.tuple #[.agg (rcC d.1.1 d.1.2.1 (ptr g) d.1.2.2.length cap),.bool d.2]
theorem readsF_len (a:AD) (at_:Int) (k:Nat):(readsF a at_ k).length=k:=by unfold readsF; rw[List.length_map,List.length_range]
theorem readsF_next (a:AD) (at_:Int) (k:Nat):readsF a at_ (k+1)=readsF a at_ k++[(a.read (at_+1+(k:Int))).1.data.toList]:=by
 unfold readsF; rw[List.range_succ,List.map_append]; rfl
theorem strB_data (s:ByteArray):strB s.data.toList=s:=rfl
section
variable {q r S t n:Nat}{a:AD}{F:List Nat}{w0 w:World}{X:List A}
theorem Dr.size_of (h:Dr q a F w0 w X) (i:Int):(a.read i).1.data.toList.length≤64:=h.read_size i
theorem Dr.push1 {t e:TypeId}{i:TypeInfo}{z v:Value}(ht:Tp.underlying t=some (.slice e)) (hi:Tp.info? e=some i) (hz:i.zero=some z) (hsize:i.size=1) (hzs:z.cells.size=1) (hby:decide (i.bytes≤1000000)=true)
  {g:Option Nat} {n cap:Nat} {xs:List Value} {Δ:List A} (h:Dr q a F w0 w X) (hk:Pick (rowP e 1 g n cap xs) X Δ) (hv:v.oneCell'=true) (hn:n≤1000000) {K:Option Addr→Nat→Nat→World→Prop} (hK:∀g' cap' w',Dr q a F w0 w' (rowP e 1 g' (n+1) cap' (xs++[v])::Δ)→K (ptr g') (n+1) cap' w'):
  Alloc #[v] e w fun k w1=>∃(p:Option Addr) (l c:Nat),∃w2,(builtin .append #[t,t] t #[false,false] #[.slice (ptr g) n cap,.slice (some ⟨k,0,none⟩) 1 1]).run Tp w1=.ok (.value (.slice p l c)) w2∧K p l c w2:=by
 obtain⟨D,hD,hA,hT⟩:=h
 exact push1_t ht hi hz hsize hzs hby hT (hk.app (drvL D)) hv hn fun g' cap' w' hT'=>hK g' cap' w' ⟨D,hD,hA,hT'⟩
theorem Dr.pushN {t e:TypeId}{i:TypeInfo}{z:Value}{c:Array Value}{size:Nat}(ht:Tp.underlying t=some (.slice e)) (hi:Tp.info? e=some i) (hz:i.zero=some z) (hsize:i.size=size) (hzs:z.cells.size=size) (hby:decide (i.bytes≤1000000)=true)
  {g:Option Nat} {n cap:Nat} {xs:List Value} {Δ:List A} (h:Dr q a F w0 w X) (hk:Pick (rowP e size g n cap xs) X Δ) (hc:c.size=size) (hv:∀u∈c.toList,u.oneCell'=true) (hn:n≤1000000) {K:Option Addr→Nat→Nat→World→Prop} (hK:∀g' cap' w',Dr q a F w0 w' (rowP e size g' (n+1) cap' (xs++c.toList)::Δ)→K (ptr g') (n+1) cap' w'):
  Alloc c e w fun k w1=>∃(p:Option Addr) (l c:Nat),∃w2,(builtin .append #[t,t] t #[false,false] #[.slice (ptr g) n cap,.slice (some ⟨k,0,none⟩) 1 1]).run Tp w1=.ok (.value (.slice p l c)) w2∧K p l c w2:=by
 obtain⟨D,hD,hA,hT⟩:=h
 exact pushN_t ht hi hz hsize hzs hby hT (hk.app (drvL D)) hc hv hn fun g' cap' w' hT'=>hK g' cap' w' ⟨D,hD,hA,hT'⟩
theorem record_spec (h:Dr q a F w0 w X) (hm:blk r (rgC q S t n) 128∈X) (hF:a.Few 1000000) (h1:1≤S) (h2:S≤1000000){m:Nat}(hm64:m<2 ^ 64):
  Calls Tp 82 #[.pointer (some ⟨r,0,none⟩),.int .u64 (m:Int)] w fun e w'=>∃g cap,e=.returned (rxV (recF a S m) g cap)∧Dr q a F w0 w' (rowP 64 3 g (recF a S m).1.2.2.length cap (rpL (recF a S m).1.2.2)::X):=by
 refine(ring_Ring_record_calls (R:=fun v w'=>∃g cap,v=rxV (recF a S m) g cap∧Dr q a F w0 w' (rowP 64 3 g (recF a S m).1.2.2.length cap (rpL (recF a S m).1.2.2)::X)) ?_).mono fun e w' ⟨v,he,g,cap,hv,h⟩=>⟨g,cap,by rw[he,hv],h⟩
 unfold ring_Ring_record
 refine Dr.alloc h fun k4 w1 h1'=>?_
 have h1':Dr q a F w0 w1 (blk k4 zR 75::X):=h1'
 have bad:∀(w':World) (Δ:List A),Dr q a F w0 w' (Δ++blk k4 zR 75::X)→recF a S m=(zRc,false)→
   St ⟨k4,0,none⟩ (.int .u64 0) w' fun w2=>St ⟨k4,1,none⟩ (.int .i64 0) w2 fun w3=>St ⟨k4,2,none⟩ (.slice none 0 0) w3 fun w4=>∃nr2_0:Int,∃nr2_1:Int,∃(pr2_2:Option Addr) (lr2_2 cr2_2:Nat),(w4.cell? ⟨k4,0,none⟩=some (.int .u64 nr2_0)∧w4.cell? ⟨k4,1,none⟩=some (.int .i64 nr2_1)∧w4.cell? ⟨k4,2,none⟩=some (.slice pr2_2 lr2_2 cr2_2))∧
    ∃g cap,(Value.tuple #[.agg #[.int .u64 nr2_0,.int .i64 nr2_1,.slice pr2_2 lr2_2 cr2_2],.bool false])=rxV (recF a S m) g cap∧Dr q a F w0 w4 (rowP 64 3 g (recF a S m).1.2.2.length cap (rpL (recF a S m).1.2.2)::X):=by
  intro w' Δ hT' hd
  have hT':=Dr.back hT'
  refine Dr.st1 (c':=zR) hT' (show 0<3 by decide) rfl rfl fun w2 h2=>Dr.st1 (c':=zR) h2 (show 1<3 by decide) rfl rfl fun w3 h3=>Dr.st1 (c':=zR) h3 (show 2<3 by decide) rfl rfl fun w4 h4=>?_
  refine⟨_,_,_,_,_,⟨h4.under.ld (c:=zR) List.mem_cons_self rfl,h4.under.ld (c:=zR) (i:=1) List.mem_cons_self rfl,h4.under.ld (c:=zR) (i:=2) List.mem_cons_self rfl⟩,none,0,?_,?_⟩
  ·rw[hd]; rfl
  ·rw[hd]; exact Dr.nilRow h4.dropX _ _
 refine(rgfirst_spec h1' (List.mem_cons_of_mem _ hm) h1 h2 m).mono fun e w2 ⟨he2,hx2⟩=>⟨_,he2,?_⟩
 have hd2:=h1'.quiet hx2
 have ptrR:∀{w':World} {Δ:List A},Dr q a F w0 w' (Δ++blk k4 zR 75::X)→w'.cell? ⟨r,0,none⟩=some (.pointer (some ⟨q,0,none⟩)):=fun hh=>hh.under.ld (c:=rgC q S t n) (List.mem_append_right _ (List.mem_cons_of_mem _ hm)) rfl
 obtain⟨at_,hat,hat0,hat1⟩:∃x:Int,ratF S m=x∧0≤x∧x≤50000000:=⟨_,rfl,by unfold ratF; omega,by have:m%S<S:=Nat.mod_lt _ (by omega); unfold ratF; omega⟩
 have eat:(4+41*((m%S:Nat):Int))=at_:=hat
 try dsimp only
 rw[eat]
 refine⟨_,rfl,_,ptrR (Δ:=[]) hd2,?_⟩
 refine(read_a hd2 hF at_).mono fun e w3 ⟨he3,hx3⟩=>⟨_,_,he3,?_⟩
 have hd3:=hd2.quiet hx3
 have hsz:=hd3.size_of at_
 have hrec:recF a S m=if (a.read at_).2≠0 then (zRc,false)
   else if (decH (a.read at_).1.data.toList).2≠0∨(decH (a.read at_).1.data.toList).1.1≠m then (zRc,false)
   else if ∃i,i<(decH (a.read at_).1.data.toList).1.2.2.1.length∧(a.read (at_+1+(i:Int))).2≠0 then (zRc,false)
   else ((decR (a.read at_).1.data.toList (readsF a at_ (decH (a.read at_).1.data.toList).1.2.2.1.length)).1,decide ((decR (a.read at_).1.data.toList (readsF a at_ (decH (a.read at_).1.data.toList).1.2.2.1.length)).2=0)):=by
  unfold recF; rw[hat]
 rw[←strB_data (a.read at_).1]
 generalize (a.read at_).1.data.toList=b at hrec hsz
 generalize (a.read at_).2=er at hrec
 refine⟨bne_t fun hne=>bad w3 [] hd3 (by rw[hrec]; exact if_pos hne),bne_f fun heq=>?_⟩
 rw[if_neg (fun hn=>hn heq)]at hrec
 refine Dr.intoT (Y:=[]) hd3 fun Γ hT hback=>?_
 have h41:=decH_len b
 have hhd:=rhead_spec hT b (by omega)
 generalize decH b=d at hhd hrec h41
 obtain⟨⟨seq,row,ps,sum⟩,e2⟩:=d
 have h41:ps.length≤41:=h41
 have hrec:recF a S m=if e2≠0∨seq≠m then (zRc,false) else if ∃i,i<ps.length∧(a.read (at_+1+(i:Int))).2≠0 then (zRc,false) else ((decR b (readsF a at_ ps.length)).1,decide ((decR b (readsF a at_ ps.length)).2=0)):=hrec
 refine hhd.mono fun e w7 ⟨g,cap,he7,hT7⟩=>⟨_,_,_,_,_,_,_,he7,?_⟩
 have h7:Dr q a F w0 w7 (rowP 64 3 g ps.length cap (rpL ps)::blk k4 zR 75::X):=hback w7 [_] hT7
 refine Dr.alloc h7 fun k9 w8 h8=>Dr.st1 (c:=zR) (c':=#[.int .u64 (seq:Int),.int .i64 0,.slice none 0 0]) h8 (show 0<3 by decide) rfl rfl fun w9 h9=>Dr.st1 (c':=#[.int .u64 (seq:Int),.int .i64 row,.slice none 0 0]) h9 (show 1<3 by decide) rfl rfl fun w10 h10=>Dr.st1 (c':=rcC seq row (ptr g) ps.length cap) h10 (show 2<3 by decide) rfl rfl fun w11 h11=>?_
 refine⟨bne_t fun hne=>bad w11 [_,_] h11 (by rw[hrec]; exact if_pos (Or.inl hne)),bne_f fun heq2=>?_⟩
 refine⟨_,h11.under.ld (c:=rcC seq row (ptr g) ps.length cap) List.mem_cons_self rfl,?_⟩
 refine⟨bne_t fun hne=>bad w11 [_,_] h11 (by rw[hrec]; exact if_pos (Or.inr (by omega))),bne_f fun heq3=>?_⟩
 have heq3:seq=m:=by omega
 have heq2:e2=0:=heq2
 rw[if_neg (by omega)]at hrec
 refine⟨_,_,_,h11.under.ld (c:=rcC seq row (ptr g) ps.length cap) (i:=2) List.mem_cons_self rfl,?_⟩
 refine⟨fun vs w'=>∃(i:Nat) (gl:Option Nat) (cl:Nat),vs=[.slice (ptr gl) i cl,.int .i64 (i:Int)]∧i≤ps.length∧(∀j,j<i→(a.read (at_+1+(j:Int))).2=0)∧Dr q a F w0 w' (rowP 9 1 gl i cl (strV (readsF a at_ i))::blk k9 (rcC seq row (ptr g) ps.length cap) 75::rowP 64 3 g ps.length cap (rpL ps)::blk k4 zR 75::X),fun vs _=>match vs with|[_,.int _ i]=>(ps.length-i).toNat|_=>0,⟨0,none,0,rfl,by omega,fun j hj=>by omega,Dr.nilRow h11 _ _⟩,?_⟩
 rintro vs w18 ⟨i,gl,cl,rfl,hi,hok,h18⟩
 refine⟨_,_,_,_,rfl,dec_t fun hlt=>?_,dec_f fun hge=>?_⟩
 ·have hlt:i<ps.length:=by omega
  have e41:IntKind.i64.wrap (IntKind.i64.wrap (at_+1)+(i:Int))=at_+1+(i:Int):=by
   rw[wrap64 (at_+1) (by omega) (by omega),wrap64 _ (by omega) (by omega)]
  rw[e41]
  refine⟨_,rfl,_,ptrR (Δ:=[_,_,_]) h18,?_⟩
  refine(read_a h18 hF (at_+1+(i:Int))).mono fun e w19 ⟨he19,hx19⟩=>⟨_,_,he19,?_⟩
  have h19:=h18.quiet hx19
  have hnext:=readsF_next a at_ i
  refine⟨bne_t fun hne=>bad w19 [_,_,_] h19 (by rw[hrec]; exact if_pos ⟨i,hlt,hne⟩),bne_f fun heq=>?_⟩
  rw[←strB_data (a.read (at_+1+(i:Int))).1]
  refine Dr.push1 (i:=Tryz.t9) (z:=.string (ByteArray.mk #[])) (by kernel_rfl) (by kernel_rfl) (by kernel_rfl) (by kernel_rfl) (by kernel_rfl) (by kernel_rfl) h19 .head rfl (by omega) fun g2 cap2 w24 h24=>⟨⟨i+1,g2,cap2,?_,by omega,fun j hj=>?_,?_⟩,?_⟩
  ·rw[wrap64 _ (by omega) (by omega)]; rfl
  ·by_cases hji:j=i
   ·rw[hji]; exact heq
   ·exact hok j (by omega)
  ·have:strV (readsF a at_ (i+1))=strV (readsF a at_ i)++[.string (strB (a.read (at_+1+(i:Int))).1.data.toList)]:=by
    rw[hnext]; unfold strV; rw[List.map_append]; rfl
   rw[this]; exact h24
  ·show((ps.length:Int)-IntKind.i64.wrap ((i:Int)+1)).toNat<((ps.length:Int)-(i:Int)).toNat
   rw[wrap64 _ (by omega) (by omega)]; omega
 ·have hie:i=ps.length:=by omega
  subst hie
  rw[if_neg (fun⟨j,hj,hx⟩=>hx (hok j hj))]at hrec
  have hlen:=readsF_len a at_ ps.length
  generalize readsF a at_ ps.length=L at hrec hlen h18
  have h18':Dr q a F w0 w18 (rowP 9 1 gl L.length cl (strV L)::blk k9 (rcC seq row (ptr g) ps.length cap) 75::rowP 64 3 g ps.length cap (rpL ps)::blk k4 zR 75::X):=by rw[hlen]; exact h18
  refine Dr.intoT (Y:=[]) h18' fun Γ hT hback=>?_
  have hrd:=rdec_spec hT b (by omega) (L:=L) (gl:=gl) (cl:=cl) List.mem_cons_self
  rw[hlen]at hrd hback
  generalize decR b L=d at hrd hrec
  obtain⟨⟨seq',row',ps'⟩,e3⟩:=d
  refine hrd.mono fun e w25 ⟨g',cap',he25,hT25⟩=>⟨_,_,_,_,_,_,he25,?_⟩
  have h25:Dr q a F w0 w25 (rowP 64 3 g' ps'.length cap' (rpL ps')::rowP 9 1 gl ps.length cl (strV L)::blk k9 (rcC seq row (ptr g) ps.length cap) 75::rowP 64 3 g ps.length cap (rpL ps)::blk k4 zR 75::X):=hback w25 [_] hT25
  have h25:Dr q a F w0 w25 (blk k4 zR 75::rowP 64 3 g' ps'.length cap' (rpL ps')::X):=by
   have hp:=Dr.perm h25 (X':=rowP 9 1 gl ps.length cl (strV L)::blk k9 (rcC seq row (ptr g) ps.length cap) 75::rowP 64 3 g ps.length cap (rpL ps)::blk k4 zR 75::rowP 64 3 g' ps'.length cap' (rpL ps')::X) ((List.perm_middle (l₁:=[_,_,_,_]) (l₂:=X)).symm)
   exact hp.dropX.dropX.dropX
  refine Dr.alloc h25 fun k15 w26 h26=>Dr.st1 (c:=zR) (c':=#[.int .u64 (seq':Int),.int .i64 0,.slice none 0 0]) h26 (show 0<3 by decide) rfl rfl fun w27 h27=>Dr.st1 (c':=#[.int .u64 (seq':Int),.int .i64 row',.slice none 0 0]) h27 (show 1<3 by decide) rfl rfl fun w28 h28=>Dr.st1 (c':=rcC seq' row' (ptr g') ps'.length cap') h28 (show 2<3 by decide) rfl rfl fun w29 h29=>?_
  refine⟨_,_,_,_,_,⟨h29.under.ld (c:=rcC seq' row' (ptr g') ps'.length cap') List.mem_cons_self rfl,h29.under.ld (c:=rcC seq' row' (ptr g') ps'.length cap') (i:=1) List.mem_cons_self rfl,h29.under.ld (c:=rcC seq' row' (ptr g') ps'.length cap') (i:=2) List.mem_cons_self rfl⟩,?_⟩
  refine Dr.st1 (c':=#[.int .u64 (seq':Int),.int .i64 0,.slice none 0 0]) h29.dropX (show 0<3 by decide) rfl rfl fun w30 h30=>Dr.st1 (c':=#[.int .u64 (seq':Int),.int .i64 row',.slice none 0 0]) h30 (show 1<3 by decide) rfl rfl fun w31 h31=>Dr.st1 (c':=rcC seq' row' (ptr g') ps'.length cap') h31 (show 2<3 by decide) rfl rfl fun w32 h32=>?_
  refine⟨_,_,_,_,_,⟨h32.under.ld (c:=rcC seq' row' (ptr g') ps'.length cap') List.mem_cons_self rfl,h32.under.ld (c:=rcC seq' row' (ptr g') ps'.length cap') (i:=1) List.mem_cons_self rfl,h32.under.ld (c:=rcC seq' row' (ptr g') ps'.length cap') (i:=2) List.mem_cons_self rfl⟩,g',cap',?_,?_⟩
  ·rw[hrec]
   show Value.tuple #[_,.bool (e3==0)]=Value.tuple #[_,.bool (decide (e3=0))]
   have:(e3==0)=decide (e3=0):=by by_cases h0:e3=0<;>simp[h0]
   rw[this]; rfl
  ·rw[hrec]; exact h32.dropX
end
abbrev RcX:Type:=RcV×Option Nat×Nat
def rxC (x:RcX):Array Value:=rcC x.1.1 x.1.2.1 (ptr x.2.1) x.1.2.2.length x.2.2
def rxL (l:List RcX):List Value:=l.flatMap fun x=>(rxC x).toList
def rxOwn (l:List RcX):List A:=l.map fun x=>rowP 64 3 x.2.1 x.1.2.2.length x.2.2 (rpL x.1.2.2)
theorem rxL_snoc (l:List RcX) (x:RcX):rxL l++(rxC x).toList=rxL (l++[x]):=by simp[rxL]
theorem rxOwn_snoc (l:List RcX) (x:RcX):rxOwn (l++[x])=rxOwn l++[rowP 64 3 x.2.1 x.1.2.2.length x.2.2 (rpL x.1.2.2)]:=by simp[rxOwn]
section
variable {q r S t n:Nat}{a:AD}{F:List Nat}{w0 w:World}{X:List A}
theorem Dr.read_64 (h:Dr q a F w0 w X){i:Int}(h0:(a.read i).2=0):(a.read i).1.data.toList.length=64:=by
 obtain⟨D,_,hA,_⟩:=h
 show(a.read i).1.size=64
 have hm:a.may i=0:=by
  unfold AD.read at h0
  by_cases hm:a.may i=0
  ·exact hm
  ·rw[if_pos hm]at h0; exact absurd h0 hm
 obtain⟨l0,l1⟩:=AD.may_zero hm
 unfold AD.read at h0⊢
 rw[if_neg (by omega)]at h0⊢
 by_cases hs:a.spoilt i.toNat=true
 ·rw[if_pos hs]at h0; cases h0
 rw[if_neg hs]
 have hs:∀s∈a.safe,s.size=64:=by rw[←hA.safe]; exact hA.ok.s64
 have hp:∀s∈a.pend i.toNat,s.size=64:=by
  rw[←hA.pend i.toNat]
  unfold pendW
  cases hf:D.ws.find? fun e=>e.k==((i.toNat:Nat):Int) with
  |none=>intro s hs; cases hs
  |some e=>exact hA.ok.w64 e (List.mem_of_find?_eq_some hf)
 show(a.top i.toNat).size=64
 unfold AD.top
 split
 ·rename_i s he
  exact hp s (List.mem_of_getLast? he)
 ·have hi:i.toNat<a.safe.length:=by omega
  rw[List.getD_eq_getElem?_getD,List.getElem?_eq_getElem hi]
  exact hs _ (List.getElem_mem hi)
theorem open_ring (h:Dr q a F w0 w X) (hF:a.Few 1000000) (hlen:a.safe.length≤4096):
  Calls Tp 34 #[.pointer (some ⟨q,0,none⟩)] w fun e w'=>
   ((openF a).2≠0∧e=.returned (.tuple #[.pointer none,.slice none 0 0,.int .i64 (openF a).2])∧Dr q a F w0 w' X)∨
   ((openF a).2=0∧1≤(slotsN (a.safe.length:Int)).toNat∧∃r g cap lx,e=.returned (.tuple #[.pointer (some ⟨r,0,none⟩),.slice (ptr g) (lx:List RcX).length cap,.int .i64 0])∧lx.map (·.1)=recsF a (slotsN (a.safe.length:Int)).toNat (slotsN (a.safe.length:Int)).toNat (((openF a).1+1)%2 ^ 64)∧
    Dr q a F w0 w' (blk r (rgC q (slotsN (a.safe.length:Int)).toNat (openF a).1 (((openF a).1+1+lx.length)%2 ^ 64)) 128::rowP 75 3 g lx.length cap (rxL lx)::(rxOwn lx++X))):=by
 let R:Value→World→Prop:=fun v w'=>((openF a).2≠0∧v=(.tuple #[.pointer none,.slice none 0 0,.int .i64 (openF a).2])∧Dr q a F w0 w' X)∨
   ((openF a).2=0∧1≤(slotsN (a.safe.length:Int)).toNat∧∃r g cap lx,v=(.tuple #[.pointer (some ⟨r,0,none⟩),.slice (ptr g) (lx:List RcX).length cap,.int .i64 0])∧lx.map (·.1)=recsF a (slotsN (a.safe.length:Int)).toNat (slotsN (a.safe.length:Int)).toNat (((openF a).1+1)%2 ^ 64)∧
    Dr q a F w0 w' (blk r (rgC q (slotsN (a.safe.length:Int)).toNat (openF a).1 (((openF a).1+1+lx.length)%2 ^ 64)) 128::rowP 75 3 g lx.length cap (rxL lx)::(rxOwn lx++X)))
 refine(ring_Open_calls (R:=R) ?_).mono fun e w' ⟨v,he,hv⟩=>?_
 ·have bad:∀(w':World) (Δ:List A) (x:Int),Dr q a F w0 w' (Δ++X)→x≠0→(openF a).2=x→R (.tuple #[.pointer none,.slice none 0 0,.int .i64 x]) w':=fun w' Δ x hh hx he=>.inl ⟨by rw[he]; exact hx,by rw[he],Dr.back hh⟩
  obtain⟨S,hS⟩:∃S:Nat,slotsN (a.safe.length:Int)=(S:Int):=⟨(slotsN (a.safe.length:Int)).toNat,by unfold slotsN; omega⟩
  have hS99:S≤99:=by unfold slotsN at hS; omega
  have hof:openF a=if (a.read 3).2≠0 then (0,(a.read 3).2)
   else if (openB (a.read 3).1.data.toList).2=false∨(S:Int)=0 then (0,200)
   else if markB (leN (((openB (a.read 3).1.data.toList).1.drop 4).take 8))≠(a.read 3).1.data.toList then (0,200)
   else (leN (((openB (a.read 3).1.data.toList).1.drop 4).take 8),0):=by unfold openF; rw[hS]
  have hgood:∀(v:Value) (w':World) (t:Nat),openF a=(t,0)→1≤S→(∃r g cap lx,v=(.tuple #[.pointer (some ⟨r,0,none⟩),.slice (ptr g) (lx:List RcX).length cap,.int .i64 0])∧lx.map (·.1)=recsF a S S ((t+1)%2 ^ 64)∧Dr q a F w0 w' (blk r (rgC q S t ((t+1+lx.length)%2 ^ 64)) 128::rowP 75 3 g lx.length cap (rxL lx)::(rxOwn lx++X)))→R v w':=by
   intro v w' t ht h1 hv
   refine .inr ⟨by rw[ht],by rw[hS]; omega,?_⟩
   rw[ht,hS]
   exact hv
  clear_value R
  unfold ring_Open
  refine(read_a h hF 3).mono fun e w1 ⟨he1,hx1⟩=>⟨_,_,he1,?_⟩
  have h1:=h.quiet hx1
  have h64:=h1.read_64 (i:=3)
  try dsimp only
  rw[←strB_data (a.read 3).1]
  generalize (a.read 3).1.data.toList=b at hof h64
  generalize (a.read 3).2=er at hof h64
  refine⟨bne_t fun hne=>bad w1 [] er h1 hne (by rw[hof,if_pos hne]),bne_f fun heq=>?_⟩
  rw[if_neg (fun hn=>hn heq)]at hof
  have h64:=h64 heq
  refine(rgsectors_spec h1).mono fun e w2 ⟨he2,hx2⟩=>⟨_,he2,?_⟩
  refine(slots_spec (a.safe.length:Int) (by omega) (by omega) w2).mono fun e w3 ⟨he3,hx3⟩=>⟨_,he3,?_⟩
  try dsimp only
  rw[hS]
  refine Dr.alloc ((h1.quiet hx2).quiet hx3) fun r w4 h4=>?_
  have h4:Dr q a F w0 w4 (blk r (rgC q S 0 0) 128::X):=h4
  refine(open_spec (strB b) (by rw[strB_size]; omega) w4).mono fun e w5 ⟨he5,hx5⟩=>⟨_,_,he5,?_⟩
  have eb:(strB b).data.toList=b:=rfl
  try dsimp only
  try rw[eb]
  have h5:=h4.quiet hx5
  refine⟨not_t fun ho=>bad w5 [_] 200 h5 (by decide) (by rw[hof,if_pos (Or.inl ho)]),not_f fun ho=>?_⟩
  refine⟨_,rfl,(S:Int),by rw[addr_add]; exact h5.under.ld (c:=rgC q S 0 0) List.mem_cons_self rfl,?_⟩
  refine⟨beq_t fun h0=>bad w5 [_] 200 h5 (by decide) (by rw[hof,if_pos (Or.inr h0)]),beq_f fun hn0=>?_⟩
  rw[if_neg (by rw[ho]; simp; omega)]at hof
  rw[openB_take h64 ho]at hof⊢
  have hl60:(b.take 60).length=60:=by rw[List.length_take]; omega
  have s1:=slice_mid (P:=Tp) (t:=9) (k:=.i64) (k':=.i64) (s:=strB (b.take 60)) (lo:=4) (hi:=12) (w:=w5) (by kernel_rfl) (by omega) (by omega) (by rw[strB_size,hl60]; omega)
  rw[strB_extract]at s1
  have e1:(((b.take 60).drop (4:Int).toNat).take ((12:Int).toNat-(4:Int).toNat))=((b.take 60).drop 4).take 8:=rfl
  rw[e1]at s1
  refine⟨_,w5,s1,?_⟩
  have hl8:(((b.take 60).drop 4).take 8).length=8:=by rw[List.length_take,List.length_drop]; omega
  generalize ((b.take 60).drop 4).take 8=l8 at hof hl8
  have ht64:leN l8<2 ^ 64:=by
   have:=leN_lt l8
   rw[hl8]at this
   have q8:(256:Nat) ^ 8=2 ^ 64:=by decide
   omega
  refine Dr.alloc h5 fun k46 w7 h7=>?_
  have h7:Dr q a F w0 w7 (rowP 3 1 (some k46) 1 1 (intsN [8])::blk r (rgC q S 0 0) 128::X):=Dr.blkRow h7 rfl rfl (by decide)
  refine Dr.intoT (Y:=[]) h7 fun Γ hT hback=>?_
  refine(decode_spec (ws:=[8]) rwid8 (s:=strB l8) (by rw[strB_size,hl8]; rfl) hT (g2:=some k46) (n2:=1) (c2:=1) rfl List.mem_cons_self).mono fun e w8 ⟨bd,he8,hT8⟩=>⟨_,_,_,_,he8,?_⟩
  have ed:decP (strB l8).data.toList [8]=[leN l8]:=by
   show[leN (l8.take 8)]=_
   rw[List.take_of_length_le (by omega)]
  rw[ed]at hT8
  have h8:=hback w8 [_] hT8
  generalize leN l8=t at hof ht64 hT8 h8
  have h8:Dr q a F w0 w8 (rowP 70 1 (some bd) 1 1 (u64s [t])::rowP 3 1 (some k46) 1 1 (intsN [8])::blk r (rgC q S 0 0) 128::X):=h8
  refine⟨bne_t fun hne=>absurd rfl hne,bne_f fun _=>?_⟩
  refine⟨_,rfl,by omega,by decide,_,rowP.cell (k:=0) (h8.under.says List.mem_cons_self) rfl,?_⟩
  refine(mark_spec ht64 w8).mono fun e w9 ⟨he9,hx9⟩=>⟨_,he9,?_⟩
  have h9:=h8.quiet hx9
  simp only[strB_toList]
  refine⟨not_t fun hm=>bad w9 [_,_,_] 200 h9 (by decide) (by rw[hof,if_pos (by simpa using hm)]),not_f fun hm=>?_⟩
  rw[if_neg (by simpa using hm)]at hof
  have h9d:=Dr.rdrew h9
  have cellU:∀{w':World} {Δ:List A},Dr q a F w0 w' Δ→rowP 70 1 (some bd) 1 1 (u64s [t])∈Δ→w'.cell? ⟨bd,0,none⟩=some (.int .u64 (t:Int)):=fun hh hm=>rowP.cell (k:=0) (hh.under.says hm) rfl
  refine⟨fun w'=>∃Δ,rowP 70 1 (some bd) 1 1 (u64s [t])∈Δ∧Dr q a F w0 w' Δ,⟨_,List.mem_cons_self,h9d⟩,_,rfl,by omega,by decide,(t:Int),fun w' ⟨Δ,hm',h'⟩=>cellU h' hm',_,rfl,by omega,by decide,(t:Int),fun w' ⟨Δ,hm',h'⟩=>cellU h' hm',_,rfl,?_⟩
  have h9p:=Dr.perm h9d (X':=blk r (rgC q S 0 0) 128::rowP 70 1 (some bd) 1 1 (u64s [t])::rowP 3 1 (some k46) 1 1 (intsN [8])::X) ((List.perm_middle (l₁:=[_,_]) (l₂:=X)))
  rw[addr_add]
  refine Dr.st1 (c':=rgC q S t 0) h9p (show 0+2<4 by decide) rfl rfl fun w10 h10=>⟨⟨_,List.mem_cons_of_mem _ List.mem_cons_self,h10⟩,_,rfl,?_⟩
  rw[addr_add]
  have ew:IntKind.u64.wrap ((t:Int)+1)=(((t+1)%2 ^ 64:Nat):Int):=by rw[wrapU64]; omega
  rw[ew]
  refine Dr.st1 (c':=rgC q S t ((t+1)%2 ^ 64)) h10 (show 0+3<4 by decide) rfl rfl fun w11 h11=>?_
  refine Join.intro fun J hJ=>?_
  refine⟨fun vs w'=>∃(lx:List RcX) (g:Option Nat) (cap:Nat),vs=[.slice (ptr g) lx.length cap]∧lx.length≤S∧recsF a S S ((t+1)%2 ^ 64)=lx.map (·.1)++recsF a S (S-lx.length) ((t+1+lx.length)%2 ^ 64)∧Dr q a F w0 w' (rowP 75 3 g lx.length cap (rxL lx)::blk r (rgC q S t ((t+1+lx.length)%2 ^ 64)) 128::(rxOwn lx++X)),fun vs _=>match vs with|[.slice _ l _]=>S-l|_=>0,⟨[],none,0,rfl,Nat.zero_le _,rfl,?_⟩,?_⟩
  ·have hp:=Dr.perm h11 (X':=rowP 70 1 (some bd) 1 1 (u64s [t])::rowP 3 1 (some k46) 1 1 (intsN [8])::blk r (rgC q S t ((t+1)%2 ^ 64)) 128::X) ((List.perm_middle (l₁:=[_,_]) (l₂:=X)).symm)
   exact Dr.nilRow hp.dropX.dropX _ _
  rintro vs w13 ⟨lx,g,cap,rfl,hlx,hrs,h13⟩
  have hfin:∀(w':World),recsF a S (S-lx.length) ((t+1+lx.length)%2 ^ 64)=[]→Dr q a F w0 w' (rowP 75 3 g lx.length cap (rxL lx)::blk r (rgC q S t ((t+1+lx.length)%2 ^ 64)) 128::(rxOwn lx++X))→J [.slice (ptr g) lx.length cap] w':=by
   intro w' he hh
   refine hJ _ _ ⟨_,_,_,rfl,hgood _ _ t hof (by omega) ⟨r,g,cap,lx,rfl,by rw[hrs,he,List.append_nil],Dr.perm hh (.swap _ _ _)⟩⟩
  refine⟨_,_,_,rfl,_,rfl,(S:Int),by rw[addr_add]; exact h13.under.ld (c:=rgC q S t ((t+1+lx.length)%2 ^ 64)) (List.mem_cons_of_mem _ List.mem_cons_self) rfl,dec_t fun hlt=>?_,dec_f fun hge=>?_⟩
  ·have hlt:lx.length<S:=by omega
   refine⟨_,rfl,_,by rw[addr_add]; exact h13.under.ld (c:=rgC q S t ((t+1+lx.length)%2 ^ 64)) (List.mem_cons_of_mem _ List.mem_cons_self) rfl,?_⟩
   have hmlt:(t+1+lx.length)%2 ^ 64<2 ^ 64:=Nat.mod_lt _ (by decide)
   have hrec:=record_spec h13 (List.mem_cons_of_mem _ List.mem_cons_self) hF (by omega) (by omega) hmlt
   have hone:recsF a S (S-lx.length) ((t+1+lx.length)%2 ^ 64)=if (recF a S ((t+1+lx.length)%2 ^ 64)).2 then (recF a S ((t+1+lx.length)%2 ^ 64)).1::recsF a S (S-(lx.length+1)) ((t+1+(lx.length+1))%2 ^ 64) else []:=by
    obtain⟨k,hk⟩:∃k,S-lx.length=k+1:=⟨S-lx.length-1,by omega⟩
    rw[hk,show S-(lx.length+1)=k by omega,show(t+1+(lx.length+1))%2 ^ 64=((t+1+lx.length)%2 ^ 64+1)%2 ^ 64 by omega]
    rfl
   generalize recF a S ((t+1+lx.length)%2 ^ 64)=d at hrec hone
   obtain⟨⟨sq,row,ps⟩,ok⟩:=d
   refine hrec.mono fun e w14 ⟨gp,cp,he14,h14⟩=>⟨_,_,_,_,_,_,he14,?_⟩
   have h14:Dr q a F w0 w14 (rowP 64 3 gp ps.length cp (rpL ps)::rowP 75 3 g lx.length cap (rxL lx)::blk r (rgC q S t ((t+1+lx.length)%2 ^ 64)) 128::(rxOwn lx++X)):=h14
   refine Dr.alloc h14 fun k13 w15 h15=>Dr.st1 (c:=zR) (c':=#[.int .u64 (sq:Int),.int .i64 0,.slice none 0 0]) h15 (show 0<3 by decide) rfl rfl fun w16 h16=>Dr.st1 (c':=#[.int .u64 (sq:Int),.int .i64 row,.slice none 0 0]) h16 (show 1<3 by decide) rfl rfl fun w17 h17=>Dr.st1 (c':=rcC sq row (ptr gp) ps.length cp) h17 (show 2<3 by decide) rfl rfl fun w18 h18=>?_
   refine⟨not_t fun ho=>hfin w18 (by rw[hone]; exact if_neg (by rw[show ok=false from ho]; simp)) h18.dropX.dropX,not_f fun ho=>?_⟩
   have ho:ok=true:=ho
   subst ho
   have hone:recsF a S (S-lx.length) ((t+1+lx.length)%2 ^ 64)=(sq,row,ps)::recsF a S (S-(lx.length+1)) ((t+1+(lx.length+1))%2 ^ 64):=hone
   refine⟨_,_,_,_,_,⟨h18.under.ld (c:=rcC sq row (ptr gp) ps.length cp) List.mem_cons_self rfl,h18.under.ld (c:=rcC sq row (ptr gp) ps.length cp) (i:=1) List.mem_cons_self rfl,h18.under.ld (c:=rcC sq row (ptr gp) ps.length cp) (i:=2) List.mem_cons_self rfl⟩,?_⟩
   refine Dr.pushN (t:=72) (i:=Tryz.t75) (z:=.agg #[.int .u64 0,.int .i64 0,.slice none 0 0]) (c:=rcC sq row (ptr gp) ps.length cp) (size:=3) (by kernel_rfl) (by kernel_rfl) (by kernel_rfl) (by kernel_rfl) (by kernel_rfl) (by kernel_rfl) h18 (.tail (.tail .head)) rfl (fun u hu=>?_) (by omega) fun g' cap' w20 h20=>?_
   ·have hu:u∈[Value.int .u64 (sq:Int),.int .i64 row,.slice (ptr gp) ps.length cp]:=hu
    simp only[List.mem_cons,List.not_mem_nil,or_false]at hu
    rcases hu with rfl|rfl|rfl<;>rfl
   ·have hsn:rxL lx++(rcC sq row (ptr gp) ps.length cp).toList=rxL (lx++[((sq,row,ps),gp,cp)]):=rxL_snoc lx ((sq,row,ps),gp,cp)
    rw[hsn]at h20
    refine⟨_,rfl,_,by rw[addr_add]; exact h20.under.ld (c:=rgC q S t ((t+1+lx.length)%2 ^ 64)) (List.mem_cons_of_mem _ (List.mem_cons_of_mem _ (List.mem_cons_of_mem _ List.mem_cons_self))) rfl,_,rfl,?_⟩
    have h20p:=Dr.perm h20 (X':=blk r (rgC q S t ((t+1+lx.length)%2 ^ 64)) 128::rowP 75 3 g' (lx.length+1) cap' (rxL (lx++[((sq,row,ps),gp,cp)]))::blk k13 (rcC sq row (ptr gp) ps.length cp) 75::rowP 64 3 gp ps.length cp (rpL ps)::(rxOwn lx++X)) (List.perm_middle (l₁:=[_,_,_]) (l₂:=rxOwn lx++X))
    rw[addr_add]
    have ew:IntKind.u64.wrap ((((t+1+lx.length)%2 ^ 64:Nat):Int)+1)=(((t+1+(lx.length+1))%2 ^ 64:Nat):Int):=by rw[wrapU64]; omega
    rw[ew]
    refine Dr.st1 (c':=rgC q S t ((t+1+(lx.length+1))%2 ^ 64)) h20p (show 0+3<4 by decide) rfl rfl fun w21 h21=>?_
    have hl1:(lx++[((sq,row,ps),gp,cp)]).length=lx.length+1:=by rw[List.length_append]; rfl
    refine⟨⟨lx++[((sq,row,ps),gp,cp)],g',cap',by rw[hl1],by rw[hl1]; omega,by rw[hrs,hone,hl1,List.map_append,List.append_assoc]; rfl,?_⟩,?_⟩
    ·rw[hl1,rxOwn_snoc]
     have p1:=(Dr.perm h21 (List.perm_middle (l₁:=[_,_]))).dropX
     refine Dr.perm p1 ((List.Perm.swap _ _ _).trans (List.Perm.cons _ (List.Perm.cons _ ?_)))
     rw[List.append_assoc]
     exact List.perm_middle.symm
    ·show S-(lx.length+1)<S-lx.length
     omega
  ·exact hfin w13 (by rw[show S-lx.length=0 by omega]; rfl) h13
 ·rcases hv with⟨h1,h2,h3⟩|⟨h1,h2,r,g,cap,lx,h3,h4⟩
  ·exact .inl ⟨h1,by rw[he,h2],h3⟩
  ·exact .inr ⟨h1,h2,r,g,cap,lx,by rw[he,h3],h4⟩
end
structure SupV where
 uuid:Int
 events:Int
 role:Int
 cols:Int
 chunk:Int
 rows:Int
 clean:Bool
 built:Int
 new:Int
 grown:Int
deriving DecidableEq
theorem eqNil {P:Program}{w:World}{d:Nat}{xs ys:Array Value}:(Op.eqFields d xs ys []).run P w=.ok true w:=by simp[Op.eqFields]
end Go.Proofs.YtkknkmplmilihaaGreat
end
section
namespace Go.Proofs.YtkknkmplmilihaaGreat
open Go.Sh Go.RowKit Go.Maps
theorem rpL_snoc' (l:List RP) (x:RP):rpL l++(rpC x).toList=rpL (l++[x]):=by simp[rpL]
theorem blk_rowN {F:List Nat}{w0 w:World}{Γ:List A}{k:Nat}{e:TypeId}{c:Array Value}{size:Nat}(hT:T F w0 w (blk k c e::Γ)) (hc:c=#[]):T F w0 w (rowP e size (some k) 0 0 []::Γ):=
 hT.weak rfl fun g hg=>⟨by simp,Nat.le_refl _,by simp only[maxLen]; omega,c,hg,by rw[hc]; simp,by simp⟩
section
variable {w0 w:World}{Γ:List A}
end
theorem T.parts12 {F:List Nat}{w0 w:World}{Γ:List A}{g:Option Nat}{n cap:Nat}{l:List RP}(hT:T F w0 w Γ) (hm:rowP 136 3 g n cap (rpL l)∈Γ):partsAt w (ptr g) l:=by
 have hh:=hT.says hm
 have hn:l.length=n:=by have:=rowP.len hh; rw[rpL_len]at this; omega
 refine⟨fun hne=>?_,fun a ha j x hj m v hv=>?_⟩
 ·have:0<l.length:=List.length_pos_iff.2 hne
  obtain⟨b,rfl⟩:=rowP.pos hh (by omega)
  exact⟨_,rfl⟩
 ·cases g with
  |none=>cases ha
  |some b=>
   cases ha
   rw[addr_add,addr_add,Nat.zero_add]
   exact rowP.cell hh (rpL_get hj hv)
end Go.Proofs.YtkknkmplmilihaaGreat
end
section
namespace Go.Proofs.YtkknkmplmilihaaGreat
open Go.Sh Go.RowKit
def MayF (a:SupV):Prop:=a.uuid≠0∧OkG a.cols a.chunk a.rows∧((a.new=0∧a.grown=0)∨(a.new≠0∧a.cols+1≤a.new∧a.new≤10))∧(a.role=254∨a.role=255∨(0≤a.role∧a.role≤(if a.new>a.cols then a.new else a.cols)-1))∧(0≤a.built∧a.built≤a.rows)∧(0≤a.grown∧a.grown≤a.rows)
instance (a:SupV):Decidable (MayF a):=by unfold MayF; infer_instance
end Go.Proofs.YtkknkmplmilihaaGreat
end
