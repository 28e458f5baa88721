import Derived.Test.YtkknkmplmilihaaGreatD2
import Derived.Test.YtkknkmplmilihaaGreatD10
import Derived.Test.YtkknkmplmilihaaGreatD11
import Derived.Test.YtkknkmplmilihaaGreatD12
import Derived.Test.YtkknkmplmilihaaGreatD13
import Derived.Test.YtkknkmplmilihaaGreatD15
import Derived.Test.YtkknkmplmilihaaGreatD17
import Derived.Test.YtkknkmplmilihaaGreatD18
set_option linter.unusedSimpArgs false
set_option linter.unusedVariables false
set_option maxHeartbeats 2000000
set_option maxRecDepth 20000
section
namespace Go.Proofs.YtkknkmplmilihaaGreat
open Go.Sh Go.RowKit
theorem partsG_err {s:RwS}{ds:List Od}{bu:List Int}{at_ n:Int}{l:List RP}:∀(os:List Int),partsG s ds bu at_ l os=.error n→n≠0
 |[],h=>by cases h
 |o::os,h=>by
  simp only[partsG]at h
  cases hf:filR s ds bu at_ o with
  |error m=>
   rw[hf]at h
   cases h
   exact filR_err hf
  |ok x=>
   rw[hf]at h
   cases hg:partsG s ds bu at_ l os with
   |error m=>
    rw[hg]at h
    cases h
    exact partsG_err os hg
   |ok y=>rw[hg]at h; cases h
theorem partsF_err {s:RwS}{ds:List Od}{bu:List Int}{at_ n:Int}{l:List RP}(h:partsF s ds bu at_ l=.error n):n≠0:=by
 unfold partsF at h
 split at h
 ·cases h; decide
 ·split at h
  ·cases h; decide
  ·exact partsG_err _ h
theorem partsG_len {s:RwS}{ds:List Od}{bu:List Int}{at_:Int}{l:List RP}:∀(os:List Int){y:List RP},partsG s ds bu at_ l os=.ok y→y.length≤os.length*s.c.toNat
 |[],y,h=>by cases h; simp
 |o::os,y,h=>by
  simp only[partsG]at h
  cases hf:filR s ds bu at_ o with
  |error m=>rw[hf]at h; cases h
  |ok x=>
   rw[hf]at h
   cases hg:partsG s ds bu at_ l os with
   |error m=>rw[hg]at h; cases h
   |ok z=>
    rw[hg]at h
    cases h
    have h1:=partsG_len os hg
    have h2:=partsO_le s ds at_ l o x
    rw[List.length_append,List.length_cons,Nat.add_mul,Nat.one_mul]
    omega
theorem partsF_len {s:RwS}{ds:List Od}{bu:List Int}{at_:Int}{l y:List RP}(h:partsF s ds bu at_ l=.ok y):y.length≤40:=by
 unfold partsF at h
 split at h
 ·cases h
 ·rename_i hO
  split at h
  ·cases h
  ·have hG:=(Decidable.not_not.1 hO).1.1
   unfold OkG at hG
   have h1:=partsG_len _ h
   have h2:=offsC_le s l
   have:(offsC s l).length*s.c.toNat≤4*10:=Nat.mul_le_mul (by omega) (by omega)
   omega
noncomputable def apS (s:RwS) (ds:List Od) (bu:List Int) (a:AD) (S t n:Nat) (at_:Int) (l:List RP):Int×List Od×AD×Nat:=match partsF s ds bu at_ l with
 |.error e=>(e,ds,a,n)
 |.ok p=>if p=[] then (0,ds,a,n) else if (apF a S t n at_ p).2.2.2≠0 then ((apF a S t n at_ p).2.2.2,ds,(apF a S t n at_ p).1,(apF a S t n at_ p).2.1) else ((putF s ds bu at_ p).1,(putF s ds bu at_ p).2,(apF a S t n at_ p).1,(apF a S t n at_ p).2.1)
noncomputable def apN (s:RwS) (ds:List Od) (bu:List Int) (at_:Int) (l:List RP):Int×List Od:=match partsF s ds bu at_ l with
 |.error e=>(e,ds)
 |.ok p=>if p=[] then (0,ds) else putF s ds bu at_ p
section
variable {s:RwS}{ds:List Od}{bu:List Int}{F:List Nat}{w0 w:World}{X:List A}{p:Option Addr}{c m:Nat}{l:List RP}{at_:Int}
theorem applyN_spec (H:Ow (seK s ds bu) F w0 w X) (hm:m=l.length) (hp:∀w',T F w0 w' X→partsAt w' p l) (hl:ds.length≤1000000) (hll:l.length≤1000000){M:Nat}(hF:FewL ds M) (hM:M+40≤1000000):
  Calls Tp 16 #[.agg (rwC s ds.length bu.length),.pointer none,.int .i64 at_,.slice p m c] w fun e w'=>e=.returned (.int .i64 (apN s ds bu at_ l).1)∧Ow (seK s (apN s ds bu at_ l).2 bu) F w0 w' X:=by
 subst hm
 refine rq (stripe_Apply_calls ?_)
 unfold stripe_Apply
 refine H.alloc fun k4 w1 H1=>?_
 have H1:Ow (seK s ds bu) F w0 w1 (blk k4 (rwC s ds.length bu.length) 31::X):=H1
 have c4:∀{h:Kd} {w':World} {Y:List A},Ow h F w0 w' Y→blk k4 (rwC s ds.length bu.length) 31∈Y→∀i v,(rwC s ds.length bu.length)[i]?=some v→w'.cell? ⟨k4,i,none⟩=some v:=fun h' hm i v hv=>h'.ld hm hv
 refine⟨_,_,_,_,_,_,_,_,_,⟨c4 H1 (by repeat constructor) 0 _ rfl,c4 H1 (by repeat constructor) 1 _ rfl,c4 H1 (by repeat constructor) 2 _ rfl,c4 H1 (by repeat constructor) 3 _ rfl,c4 H1 (by repeat constructor) 4 _ rfl⟩,?_⟩
 refine(parts17_spec (se_w H1) hl (hF.mono (by omega)) (hp w1 H1.dropX.under) hll at_).mono fun e w2 ⟨v,he2,hv⟩=>?_
 unfold apN
 cases hpf:partsF s ds bu at_ l with
 |error n=>
  rw[hpf]at hv
  obtain⟨hv,hx2⟩:=hv
  rw[hv]at he2
  exact⟨_,_,_,_,he2,bne_t fun _=>⟨rfl,(H1.quiet hx2).dropX⟩,bne_f fun h0=>absurd h0 (partsF_err hpf)⟩
 |ok y=>
  rw[hpf]at hv
  obtain⟨gy,cy,hv,hT⟩:=hv
  rw[hv]at he2
  have h40:=partsF_len hpf
  have H2:=Ow.new H1 hT
  have H2:Ow (seK s ds bu) F w0 w2 (rowP 64 3 gy y.length cy (rpL y)::blk k4 (rwC s ds.length bu.length) 31::X):=H2
  refine⟨_,_,_,_,he2,bne_t fun h0=>absurd rfl h0,bne_f fun _=>⟨beq_t fun h0=>?_,beq_f fun h0=>?_⟩⟩
  ·have:y=[]:=List.eq_nil_of_length_eq_zero (by omega)
   subst this
   exact⟨rfl,H2.dropX.dropX⟩
  ·have hne:y≠[]:=fun e=>h0 (by rw[e]; rfl)
   show Join _ _
   refine Join.intro fun J hJ=>no rfl (hJ _ _ ⟨rfl,_,_,_,_,_,_,_,_,_,⟨c4 H2 (by repeat constructor) 0 _ rfl,c4 H2 (by repeat constructor) 1 _ rfl,c4 H2 (by repeat constructor) 2 _ rfl,c4 H2 (by repeat constructor) 3 _ rfl,c4 H2 (by repeat constructor) 4 _ rfl⟩,?_⟩)
   refine(put17_spec H2 rfl (fun w' h'=>(T.parts h' List.mem_cons_self).1) hl (by omega) hF (by omega) at_).mono fun e w3 ⟨he3,H3⟩=>⟨_,he3,?_⟩
   show Value.int .i64 _=.int .i64 (if y=[] then (0,ds) else putF s ds bu at_ y).1∧Ow (seK s (if y=[] then (0,ds) else putF s ds bu at_ y).2 bu) F w0 w3 X
   rw[if_neg hne]
   exact⟨rfl,H3.dropX.dropX⟩
theorem applyS_spec {q r S t n N:Nat}{a:AD}(H:Ow (star (seK s ds bu) (drK q a)) F w0 w (blk r (rgC q S t n) 128::X)) (hm:m=l.length) (hp:∀w',T F w0 w' X→partsAt w' p l) (hl:ds.length≤1000000) (hll:l.length≤1000000){M:Nat}(hF:FewL ds M) (hM:M+40≤1000000) (haF:a.Few N) (hN:N+100≤1000000) (h1S:1≤S) (h2S:S≤1000000) (hn:n<2 ^ 64):
  Calls Tp 16 #[.agg (rwC s ds.length bu.length),.pointer (some ⟨r,0,none⟩),.int .i64 at_,.slice p m c] w fun e w'=>e=.returned (.int .i64 (apS s ds bu a S t n at_ l).1)∧Ow (star (seK s (apS s ds bu a S t n at_ l).2.1 bu) (drK q (apS s ds bu a S t n at_ l).2.2.1)) F w0 w' (blk r (rgC q S t (apS s ds bu a S t n at_ l).2.2.2) 128::X):=by
 subst hm
 refine rq (stripe_Apply_calls ?_)
 have hR:∀(z:Int×List Od×AD×Nat) w',apS s ds bu a S t n at_ l=z→Ow (star (seK s z.2.1 bu) (drK q z.2.2.1)) F w0 w' (blk r (rgC q S t z.2.2.2) 128::X)→(fun v w'=>v=Value.int .i64 (apS s ds bu a S t n at_ l).1∧Ow (star (seK s (apS s ds bu a S t n at_ l).2.1 bu) (drK q (apS s ds bu a S t n at_ l).2.2.1)) F w0 w' (blk r (rgC q S t (apS s ds bu a S t n at_ l).2.2.2) 128::X)) (.int .i64 z.1) w':=fun z w' e h=>by rw[e]; exact⟨rfl,h⟩
 generalize (fun v w'=>v=Value.int .i64 (apS s ds bu a S t n at_ l).1∧Ow (star (seK s (apS s ds bu a S t n at_ l).2.1 bu) (drK q (apS s ds bu a S t n at_ l).2.2.1)) F w0 w' (blk r (rgC q S t (apS s ds bu a S t n at_ l).2.2.2) 128::X))=R at hR⊢
 unfold stripe_Apply
 refine H.alloc fun k4 w1 H1=>?_
 have H1:Ow (star (seK s ds bu) (drK q a)) F w0 w1 (blk k4 (rwC s ds.length bu.length) 31::blk r (rgC q S t n) 128::X):=H1
 have c4:∀{h:Kd} {w':World} {Y:List A},Ow h F w0 w' Y→blk k4 (rwC s ds.length bu.length) 31∈Y→∀i v,(rwC s ds.length bu.length)[i]?=some v→w'.cell? ⟨k4,i,none⟩=some v:=fun h' hm i v hv=>h'.ld hm hv
 refine⟨_,_,_,_,_,_,_,_,_,⟨c4 H1 (by repeat constructor) 0 _ rfl,c4 H1 (by repeat constructor) 1 _ rfl,c4 H1 (by repeat constructor) 2 _ rfl,c4 H1 (by repeat constructor) 3 _ rfl,c4 H1 (by repeat constructor) 4 _ rfl⟩,?_⟩
 refine(parts17_spec (se_w H1.fst) hl (hF.mono (by omega)) (hp w1 H1.dropX.dropX.under) hll at_).mono fun e w2 ⟨v,he2,hv⟩=>?_
 cases hpf:partsF s ds bu at_ l with
 |error e0=>
  rw[hpf]at hv
  obtain⟨hv,hx2⟩:=hv
  rw[hv]at he2
  exact⟨_,_,_,_,he2,bne_t fun _=>hR (e0,ds,a,n) _ (by unfold apS; rw[hpf]) (H1.quiet hx2).dropX,bne_f fun h0=>absurd h0 (partsF_err hpf)⟩
 |ok y=>
  rw[hpf]at hv
  obtain⟨gy,cy,hv,hT⟩:=hv
  rw[hv]at he2
  have h40:=partsF_len hpf
  have H2:Ow (star (seK s ds bu) (drK q a)) F w0 w2 (rowP 64 3 gy y.length cy (rpL y)::blk k4 (rwC s ds.length bu.length) 31::blk r (rgC q S t n) 128::X):=Ow.new H1 hT
  refine⟨_,_,_,_,he2,bne_t fun h0=>absurd rfl h0,bne_f fun _=>⟨beq_t fun h0=>?_,beq_f fun h0=>?_⟩⟩
  ·have:y=[]:=List.eq_nil_of_length_eq_zero (by omega)
   subst this
   exact hR (0,ds,a,n) _ (by unfold apS; rw[hpf]; exact if_pos rfl) H2.dropX.dropX
  ·have hne:y≠[]:=fun e=>h0 (by rw[e]; rfl)
   have hap:apS s ds bu a S t n at_ l=if (apF a S t n at_ y).2.2.2≠0 then ((apF a S t n at_ y).2.2.2,ds,(apF a S t n at_ y).1,(apF a S t n at_ y).2.1) else ((putF s ds bu at_ y).1,(putF s ds bu at_ y).2,(apF a S t n at_ y).1,(apF a S t n at_ y).2.1):=by
    unfold apS; rw[hpf]; exact if_neg hne
   refine Join.intro fun J hJ=>yes rfl ?_
   have H2':Ow (star (seK s ds bu) (drK q a)) F w0 w2 (blk r (rgC q S t n) 128::rowP 64 3 gy y.length cy (rpL y)::blk k4 (rwC s ds.length bu.length) 31::X):=H2.perm (List.perm_middle (l₁:=[_,_]))
   obtain⟨Z,hZ,h1,hb⟩:=Ow.lend H2'.flip
   refine(append_all (Ow.dr h1) haF hN h1S h2S hn rfl (fun w' Δ h'=>(T.parts h' (g:=gy) (n:=y.length) (cap:=cy) (List.mem_append_right _ List.mem_cons_self)).1) (by omega)).mono fun e w3 ⟨he3,h3⟩=>⟨_,_,he3,?_⟩
   have H3:Ow (star (seK s ds bu) (drK q (apF a S t n at_ y).1)) F w0 w3 (blk r (rgC q S t (apF a S t n at_ y).2.1) 128::rowP 64 3 gy y.length cy (rpL y)::blk k4 (rwC s ds.length bu.length) 31::X):=(hb (X':=_::_::_::X) (Dr.ow h3)).flip
   refine⟨bne_t fun hn0=>?_,bne_f fun hn0=>?_⟩
   ·rw[if_pos hn0]at hap
    exact hR _ _ hap (H3.perm (List.perm_middle (l₁:=[_,_])).symm).dropX.dropX
   ·rw[if_neg (by omega)]at hap
    refine hJ _ _ ⟨rfl,_,_,_,_,_,_,_,_,_,⟨c4 H3 (by repeat constructor) 0 _ rfl,c4 H3 (by repeat constructor) 1 _ rfl,c4 H3 (by repeat constructor) 2 _ rfl,c4 H3 (by repeat constructor) 3 _ rfl,c4 H3 (by repeat constructor) 4 _ rfl⟩,?_⟩
    refine(Ow.onFst H3 fun Z' hZ'=>put17_spec hZ' rfl (fun w' h'=>(T.parts h' (g:=gy) (n:=y.length) (cap:=cy) (List.mem_cons_of_mem _ List.mem_cons_self)).1) hl (by omega) hF (by omega) at_).mono fun e w4 ⟨he4,H4⟩=>⟨_,he4,?_⟩
    exact hR _ _ hap (H4.perm (List.perm_middle (l₁:=[_,_])).symm).dropX.dropX
end
def ratN (S n:Nat):Nat:=4+41*(n%S)
theorem ratF_eq (S n:Nat):ratF S n=(ratN S n:Int):=by unfold ratF ratN; omega
theorem ratN_lt {S n N:Nat}(h1:1≤S) (hN:4+41*S≤N):ratN S n+41≤N:=by
 have:=Nat.mod_lt n (show 0<S by omega)
 unfold ratN; omega
def SlotIs (f:Nat→ByteArray) (S n:Nat) (row:Int) (l:List RP):Prop:=
 f (ratN S n)=strB (headR n row l (sumR l))∧∀j,j<l.length→f (ratN S n+1+j)=strB ((datas l).getD j [])
theorem readsF_slot {a:AD}{N:Nat}{f:Nat→ByteArray}{S n:Nat}{row:Int}{l:List RP}(h:a.Wet N f) (h1:1≤S) (hN:4+41*S≤N) (hs:SlotIs f S n row l) (hl:l.length≤40):readsF a (ratF S n) l.length=datas l:=by
 apply List.ext_getElem?; intro j
 unfold readsF
 have:=ratN_lt (n:=n) h1 hN
 by_cases hj:j<l.length
 ·rw[List.getElem?_map,List.getElem?_range hj,List.getElem?_eq_getElem (by rw[datas_len]; exact hj)]
  simp only[Option.map_some]
  rw[ratF_eq,h.read (by omega) (by omega),show((ratN S n:Int)+1+(j:Int)).toNat=ratN S n+1+j by omega,hs.2 j hj,List.getD_eq_getElem?_getD,List.getElem?_eq_getElem (by rw[datas_len]; exact hj)]
  rfl
 ·rw[List.getElem?_eq_none (by rw[List.length_map,List.length_range]; omega),List.getElem?_eq_none (by rw[datas_len]; omega)]
theorem recF_good {a:AD}{N:Nat}{f:Nat→ByteArray}{S n:Nat}{row:Int}{l:List RP}(h:a.Wet N f) (h1:1≤S) (hN:4+41*S≤N) (hn:n<2 ^ 64) (hs:SlotIs f S n row l) (hP:PlacedR row l) (hL:LoadedR l):recF a S n=((n,row,l),true):=by
 have h40:=hP.2.2.2.1
 have hlt:=ratN_lt (n:=n) h1 hN
 have hr:a.read (ratF S n)=(strB (headR n row l (sumR l)),0):=by rw[ratF_eq,h.read (by omega) (by omega),Int.toNat_natCast,hs.1]
 have hd:=decH_headR (sum:=sumR l) hn hP
 have eb:(strB (headR n row l (sumR l))).data.toList=headR n row l (sumR l):=rfl
 unfold recF
 rw[hr]
 simp only[eb,hd]
 have hb:(bare l).length=l.length:=bare_len l
 rw[if_neg (by simp),if_neg (by simp),if_neg (fun⟨i,hi,hx⟩=>hx (by
  rw[hb]at hi
  rw[ratF_eq,h.read (by omega) (by omega)])),hb,readsF_slot h h1 hN hs h40,decR_headR hn hP hL]
 rfl
theorem recF_none {a:AD}{N:Nat}{f:Nat→ByteArray}{S n:Nat}(h:a.Wet N f) (h1:1≤S) (hN:4+41*S≤N) (ho:(decH (f (ratN S n)).data.toList).2=0→(decH (f (ratN S n)).data.toList).1.1≠n):(recF a S n).2=false:=by
 have hlt:=ratN_lt (n:=n) h1 hN
 unfold recF
 rw[ratF_eq,h.read (by omega) (by omega),Int.toNat_natCast,if_neg (by simp)]
 by_cases h0:(decH (f (ratN S n)).data.toList).2=0
 ·rw[if_pos (Or.inr (ho h0))]
 ·rw[if_pos (Or.inl h0)]
structure RI (N S t:Nat) (recs:List (Int×List RP)) (f:Nat→ByteArray):Prop where
 one:1≤S
 fit:4+41*S≤N
 small:t+1000000<2 ^ 64
 sle:S≤1000
 mark:f 3=strB (markB t)
 len:recs.length≤S
 ok:∀x∈recs,PlacedR x.1 x.2∧LoadedR x.2
 slot:∀i x,recs[i]?=some x→SlotIs f S (t+1+i) x.1 x.2
 old:∀s,s<S→(decH (f (4+41*s)).data.toList).2=0→(decH (f (4+41*s)).data.toList).1.1<t+1+recs.length
def numb:Nat→List (Int×List RP)→List RcV
 |_,[]=>[]
 |n,x::l=>(n,x.1,x.2)::numb (n+1) l
theorem numb_len:∀(l:List (Int×List RP)) (n:Nat),(numb n l).length=l.length
 |[],n=>rfl
 |x::l,n=>by unfold numb; rw[List.length_cons,List.length_cons,numb_len l]
theorem RI.next {N S t:Nat}{recs:List (Int×List RP)}{f:Nat→ByteArray}(h:RI N S t recs f){a:AD}(ha:a.Wet N f):∀(k i:Nat),i≤recs.length→k+i=S→recsF a S k (t+1+i)=(numb (t+1+i) (recs.drop i))
 |0,i,hi,hk=>by
  have hl:=h.len
  have:recs.drop i=[]:=List.drop_eq_nil_of_le (by omega)
  rw[this]; rfl
 |k+1,i,hi,hk=>by
  have hsm:=h.small
  have hsl:=h.sle
  have hl:=h.len
  unfold recsF
  by_cases hlt:i<recs.length
  ·obtain⟨hP,hL⟩:=h.ok recs[i] (List.getElem_mem hlt)
   have hg:=recF_good ha h.one h.fit (show t+1+i<2 ^ 64 by omega) (h.slot i recs[i] (List.getElem?_eq_getElem hlt)) hP hL
   rw[hg,if_pos rfl,Nat.mod_eq_of_lt (by omega),show t+1+i+1=t+1+(i+1) by omega,h.next ha k (i+1) (by omega) (by omega),List.drop_eq_getElem_cons hlt]
   rfl
  ·have hn:=recF_none (n:=t+1+i) ha h.one h.fit fun h0=>by
    have:=h.old ((t+1+i)%S) (Nat.mod_lt _ (by have:=h.one; omega)) h0
    show(decH (f (4+41*((t+1+i)%S))).data.toList).1.1≠_
    omega
   rw[hn,if_neg (by decide),List.drop_eq_nil_of_le (by omega)]; rfl
theorem RI.found {N S t:Nat}{recs:List (Int×List RP)}{f:Nat→ByteArray}(h:RI N S t recs f){a:AD}(ha:a.Wet N f):recsF a S S (t+1)=numb (t+1) recs:=h.next ha S 0 (Nat.zero_le _) rfl
theorem RI.opened {N S t:Nat}{recs:List (Int×List RP)}{f:Nat→ByteArray}(h:RI N S t recs f){a:AD}(ha:a.Wet N f) (hS:slotsN (N:Int)=(S:Int)):openF a=(t,0):=by
 have h1:=h.one
 have h2:=h.fit
 have h3:=h.small
 have hr:a.read 3=(strB (markB t),0):=by rw[ha.read (by omega) (by omega)]; exact congrArg (fun x=>(x,(0:Int))) h.mark
 have eb:(strB (markB t)).data.toList=markB t:=rfl
 unfold openF
 rw[hr,eb]
 have hd:=mark_dec (n:=t) (by omega)
 have ho:(openB (markB t)).2=true:=by rw[mark_open]
 rw[hd,ha.on.len,hS,if_neg (by simp),if_neg (by rw[ho]; simp; omega),if_neg (by simp)]
theorem slots_apart {S x y:Nat}(h1:1≤S) (hlt:x<y) (hS:y<x+S):x%S≠y%S:=by
 intro e
 have h:=Nat.sub_mod_eq_zero_of_mod_eq e.symm
 have:(y-x)%S=y-x:=Nat.mod_eq_of_lt (by omega)
 omega
theorem SlotIs.congr {f g:Nat→ByteArray}{S n:Nat}{row:Int}{l:List RP}(h:SlotIs f S n row l) (hl:l.length≤40) (e:∀j,ratN S n≤j→j≤ratN S n+40→g j=f j):SlotIs g S n row l:=by
 refine⟨by rw[e _ (Nat.le_refl _) (by omega)]; exact h.1,fun j hj=>by rw[e _ (by omega) (by omega)]; exact h.2 j hj⟩
def appF (f:Nat→ByteArray) (S n:Nat) (row:Int) (l:List RP):Nat→ByteArray:=updF (loadF f (ratN S n) (datas l) l.length) (ratN S n) (strB (headR n row l (sumR l)))
theorem appOps_f (f:Nat→ByteArray) (S n:Nat) (row:Int) (l:List RP):∀m,m=[none,some (4+41*((n%S:Nat):Int),strB (headR n row l (sumR l)))]→opsF f (loadOps (4+41*((n%S:Nat):Int)) (datas l) l.length++m)=appF f S n row l:=by
 rintro m rfl
 have e:(4+41*((n%S:Nat):Int))=(ratN S n:Int):=by unfold ratN; omega
 rw[e,opsF_app,loadOps_f]
 show updF (loadF f (ratN S n) (datas l) l.length) ((ratN S n:Int)).toNat _=_
 rw[Int.toNat_natCast]; rfl
theorem RI.loads {N S t:Nat}{recs:List (Int×List RP)}{f:Nat→ByteArray}(h:RI N S t recs f) (hlt:recs.length<S){l:List RP}(hl:l.length≤40):RI N S t recs (loadF f (ratN S (t+1+recs.length)) (datas l) l.length):=by
 have keep:∀s,s<S→loadF f (ratN S (t+1+recs.length)) (datas l) l.length (4+41*s)=f (4+41*s):=fun s hs=>by
  unfold loadF; rw[if_neg (by unfold ratN; omega)]
 refine⟨h.one,h.fit,h.small,h.sle,?_,h.len,h.ok,fun i x hx=>?_,fun s hs=>?_⟩
 ·unfold loadF; rw[if_neg (by unfold ratN; omega)]; exact h.mark
 ·have hi:i<recs.length:=(List.getElem?_eq_some_iff.1 hx).1
  refine(h.slot i x hx).congr (h.ok x (List.mem_of_getElem? hx)).1.2.2.2.1 fun j h1 h2=>?_
  have hap:=slots_apart (S:=S) (x:=t+1+i) (y:=t+1+recs.length) h.one (by omega) (by omega)
  unfold loadF; unfold ratN at h1 h2⊢; rw[if_neg (by omega)]
 ·rw[keep s hs]; exact h.old s hs
theorem RI.append {N S t:Nat}{recs:List (Int×List RP)}{f:Nat→ByteArray}(h:RI N S t recs f) (hlt:recs.length<S){row:Int}{l:List RP}(hP:PlacedR row l) (hL:LoadedR l):RI N S t (recs++[(row,l)]) (appF f S (t+1+recs.length) row l):=by
 have h40:=hP.2.2.2.1
 have hsm:=h.small
 have hsl:=h.sle
 have hl:=h.loads hlt (l:=l) h40
 refine⟨h.one,h.fit,h.small,h.sle,?_,by rw[List.length_append]; exact hlt,fun x hx=>?_,fun i x hx=>?_,fun s hs=>?_⟩
 ·show updF _ _ _ 3=_
  unfold updF; rw[if_neg (by unfold ratN; omega)]; exact hl.mark
 ·rcases List.mem_append.1 hx with hx|hx
  ·exact h.ok x hx
  ·rw[List.mem_singleton.1 hx]; exact⟨hP,hL⟩
 ·by_cases hi:i<recs.length
  ·rw[List.getElem?_append_left hi]at hx
   refine(hl.slot i x hx).congr (h.ok x (List.mem_of_getElem? hx)).1.2.2.2.1 fun j h1 h2=>?_
   have hap:=slots_apart (S:=S) (x:=t+1+i) (y:=t+1+recs.length) h.one (by omega) (by omega)
   show updF _ _ _ j=_
   unfold updF; unfold ratN at h1 h2⊢; rw[if_neg (by omega)]
  ·have hie:i=recs.length:=by
    have:=(List.getElem?_eq_some_iff.1 hx).1
    rw[List.length_append,List.length_singleton]at this; omega
   subst hie
   rw[List.getElem?_append_right (Nat.le_refl _),Nat.sub_self]at hx
   obtain rfl:(row,l)=x:=by simpa using hx
   refine⟨?_,fun j hj=>?_⟩
   ·show updF _ _ _ _=_
    unfold updF; rw[if_pos rfl]
   ·show updF _ _ _ _=_
    have hj:j<l.length:=hj
    unfold updF; rw[if_neg (by omega)]
    unfold loadF; rw[if_pos (by omega),show ratN S (t+1+recs.length)+1+j-ratN S (t+1+recs.length)-1=j by omega]
 ·rw[List.length_append,List.length_singleton]
  show(decH (updF _ _ _ (4+41*s)).data.toList).2=0→(decH (updF _ _ _ (4+41*s)).data.toList).1.1<_
  unfold updF
  split
  ·intro _
   have eb:(strB (headR (t+1+recs.length) row l (sumR l))).data.toList=headR (t+1+recs.length) row l (sumR l):=rfl
   rw[eb,decH_headR (by omega) hP]
   show t+1+recs.length<_
   omega
  ·intro h0
   have:=hl.old s hs h0
   omega
theorem RI.made {N S:Nat}{f:Nat→ByteArray}(h1:1≤S) (hS:S≤1000) (hN:4+41*S≤N):RI N S 0 [] (updF (slotF f S) 3 (strB (markB 0))):=by
 refine⟨h1,hN,by decide,hS,by unfold updF; rw[if_pos rfl],Nat.zero_le _,fun x hx=>by simp at hx,fun i x hx=>by simp at hx,fun s hs h0=>?_⟩
 exfalso
 have e:updF (slotF f S) 3 (strB (markB 0)) (4+41*s)=zS:=by
  unfold updF slotF; rw[if_neg (by omega),if_pos (by omega)]
 rw[e]at h0
 exact zero_head h0
end Go.Proofs.YtkknkmplmilihaaGreat
end
section
namespace Go.Proofs.YtkknkmplmilihaaGreat
open Go.Sh Go.RowKit Go.Maps
def RAt (a:AD) (N S t:Nat) (recs:List (Int×List RP)):Prop:=slotsN (N:Int)=(S:Int)∧N≤4096∧∃f,a.Hold N f∧RI N S t recs f
theorem RAt.few {a:AD}{N S t:Nat}{recs:List (Int×List RP)}(h:RAt a N S t recs) (K:Nat):a.Few K:=by
 obtain⟨_,_,f,hf,_⟩:=h
 exact hf.few K
theorem RAt.le {a:AD}{N S t:Nat}{recs:List (Int×List RP)}(h:RAt a N S t recs):recs.length≤S∧1≤S∧S≤1000∧t+1000000<2 ^ 64:=by
 obtain⟨_,_,f,_,hr⟩:=h
 exact⟨hr.len,hr.one,hr.sle,hr.small⟩
theorem slots_fit {N S:Nat}(h:slotsN (N:Int)=(S:Int)) (h1:1≤S):4+41*S≤N:=by unfold slotsN at h; omega
theorem format_at {a:AD}{N S:Nat}{f:Nat→ByteArray}(h:a.Wet N f) (hS:slotsN (N:Int)=(S:Int)) (h1:1≤S) (hN:N≤4096):(formatF a).2=0∧RAt (formatF a).1 N S 0 []:=by
 have hfit:=slots_fit hS h1
 have e:formatF a=runS a ((slotOps S++[some (3,strB (markB 0))])++[none]):=by
  unfold formatF
  rw[h.on.len,hS,if_neg (by omega),Int.toNat_natCast,List.append_assoc]; rfl
 have hok:OpsOk N (slotOps S++[some (3,strB (markB 0))]):=fun y hy=>by
  rcases List.mem_append.1 hy with hy|hy
  ·exact slotOps_ok hfit y hy
  ·have e:=Option.some.inj (List.mem_singleton.1 hy)
   subst e
   exact⟨by show(0:Int)≤3; omega,by show(3:Int)<N; omega,by rw[strB_size]; exact markB_len 0⟩
 obtain⟨r1,r2⟩:=runS_hold h hok
 rw[e]
 refine⟨r1,hS,hN,_,r2,?_⟩
 rw[opsF_app,slotOps_f]
 show RI N S 0 [] (updF (slotF f S) 3 (strB (markB 0)))
 exact RI.made h1 (by omega) hfit
theorem RAt.app {a:AD}{N S t:Nat}{recs:List (Int×List RP)}(h:RAt a N S t recs) (hlt:recs.length<S){row:Int}{l:List RP}(hP:PlacedR row l) (hL:LoadedR l):
  (runS a (appOps S (t+1+recs.length) row l)).2=0∧RAt (runS a (appOps S (t+1+recs.length) row l)).1 N S t (recs++[(row,l)]):=by
 obtain⟨h1,h2,f,hf,hr⟩:=h
 have h40:=hP.2.2.2.1
 have hat:=ratN_lt (n:=t+1+recs.length) hr.one hr.fit
 have eat:(4+41*(((t+1+recs.length)%S:Nat):Int))=(ratN S (t+1+recs.length):Int):=by unfold ratN; omega
 have e:appOps S (t+1+recs.length) row l=(loadOps (4+41*(((t+1+recs.length)%S:Nat):Int)) (datas l) l.length++[none,some (4+41*(((t+1+recs.length)%S:Nat):Int),strB (headR (t+1+recs.length) row l (sumR l)))])++[none]:=by
  rw[List.append_assoc]; rfl
 have hok:OpsOk N (loadOps (4+41*(((t+1+recs.length)%S:Nat):Int)) (datas l) l.length++[none,some (4+41*(((t+1+recs.length)%S:Nat):Int),strB (headR (t+1+recs.length) row l (sumR l)))]):=fun y hy=>by
  rw[eat]at hy
  rcases List.mem_append.1 hy with hy|hy
  ·exact loadOps_ok ((loaded_datas l).1 hL) (by rw[datas_len]; exact Nat.le_refl _) (by omega) y hy
  ·simp only[List.mem_cons,List.not_mem_nil,or_false,reduceCtorEq,false_or,Option.some.injEq]at hy
   subst hy
   exact⟨by show(0:Int)≤ratN S (t+1+recs.length); omega,by show(ratN S (t+1+recs.length):Int)<N; omega,by rw[strB_size]; exact headR_len h40⟩
 obtain⟨r1,r2⟩:=runS_hold hf.wet hok
 rw[e]
 refine⟨r1,h1,h2,_,r2,?_⟩
 rw[appOps_f f S _ row l _ rfl]
 exact hr.append hlt hP hL
section
variable {p r:Nat}{a:AD}{F:List Nat}{w0 w:World}{X:List A}{Φ:Ending→World→Prop}{N S t:Nat}{recs:List (Int×List RP)}
theorem ropen_u (h:Dr p a F w0 w X) (hR:RAt a N S t recs) (hk:∀r g cap lx w',(lx:List RcX).map (·.1)=numb (t+1) recs→Dr p a F w0 w' (blk r (rgC p S t (t+1+recs.length)) 128::rowP 75 3 g recs.length cap (rxL lx)::(rxOwn lx++X))→Φ (.returned (.tuple #[.pointer (some ⟨r,0,none⟩),.slice (ptr g) recs.length cap,.int .i64 0])) w'):
  Calls Tp 34 #[.pointer (some ⟨p,0,none⟩)] w Φ:=by
 obtain⟨h1,h2,f,hf,hr⟩:=id hR
 have ho:=hr.opened hf.wet h1
 have hsm:=hr.small
 have hs:=hr.sle
 have hl:=hr.len
 refine(open_ring h (hf.few _) (by rw[hf.on.len]; exact h2)).mono fun e w' hh=>?_
 try dsimp only
 rw[ho,hf.on.len,h1,Int.toNat_natCast]at hh
 rcases hh with⟨hb,_⟩|⟨_,_,r,g,cap,lx,he,hlx,hd⟩
 ·exact absurd rfl hb
 ·have hlx:lx.map (·.1)=recsF a S S ((t+1)%2 ^ 64):=hlx
  rw[Nat.mod_eq_of_lt (by omega),hr.found hf.wet]at hlx
  have hn:lx.length=recs.length:=by rw[←List.length_map (f:=(·.1)),hlx,numb_len]
  have hd:Dr p a F w0 w' (blk r (rgC p S t ((t+1+lx.length)%2 ^ 64)) 128::rowP 75 3 g lx.length cap (rxL lx)::(rxOwn lx++X)):=hd
  rw[hn,Nat.mod_eq_of_lt (by omega)]at hd
  rw[he,hn]
  exact hk r g cap lx w' hlx hd
theorem left_at (hR:RAt a N S t recs):leftF S t (t+1+recs.length)=(S:Int)-recs.length:=by
 have:=hR.le
 rw[left_val (by omega) (by omega) (by omega)]; omega
end
end Go.Proofs.YtkknkmplmilihaaGreat
end
section
namespace Go.Proofs.YtkknkmplmilihaaGreat
open Go.Sh
end Go.Proofs.YtkknkmplmilihaaGreat
end
section
namespace Go.Proofs.YtkknkmplmilihaaGreat
open Go.Sh Go.RowKit
abbrev reR (s:RwS) (ds:List Od) (bu:List Int) (g1 g2:Nat):List A:=[rowP 36 1 (some g1) ds.length s.cd (ptrsV (blks ds)),rowP 3 1 (some g2) bu.length s.cb (intsI bu)]
def reK (s:RwS) (ds:List Od) (bu:List Int):Kd:=fun Y=>∃(g1 g2:Nat) (Z:List A),s.pd=some ⟨g1,0,none⟩∧s.pb=some ⟨g2,0,none⟩∧rsK ds Z∧Y=reR s ds bu g1 g2++Z
section
variable {s:RwS}{ds:List Od}{bu:List Int}{F:List Nat}{w0 w:World}{X:List A}
end
structure Sim (s sr:RwS) (ds rs:List Od):Prop where
 c:sr.c=s.c
 k:sr.k=s.k
 r:sr.r=s.r
 ads:ads ds=ads rs
section
variable {s sr:RwS}{ds rs:List Od}{bu:List Int}
end
section
variable {h g:Kd}{F:List Nat}{w0 w:World}{X:List A}
theorem Ow.useFst {K:Prop}(H:Ow (star h g) F w0 w X) (hK:∀Z,Ow h F w0 w (X++Z)→(∀h' w' X',Ow h' F w0 w' (X'++Z)→Ow (star h' g) F w0 w' X')→K):K:=by
 obtain⟨Z,_,h1,hb⟩:=Ow.lend H
 exact hK Z h1 fun h' w' X' h2=>hb h2
theorem Ow.rot {k:Kd}(H:Ow (star h (star g k)) F w0 w X):Ow (star g (star h k)) F w0 w X:=by
 obtain⟨Y,⟨Y1,_,h1,⟨Y2,Y3,h2,h3,rfl⟩,rfl⟩,hT⟩:=H
 refine⟨_,⟨Y2,_,h2,⟨Y1,Y3,h1,h3,rfl⟩,rfl⟩,hT.swap (List.Perm.append_left _ ?_)⟩
 rw[←List.append_assoc,←List.append_assoc]
 exact List.perm_append_comm.append_right _
theorem Ow.st14 {h:Kd}{F:List Nat}{w0 w:World}{X:List A}{k:Nat}{t:TypeId}{z0 z1 z2 z3 z4 z5 z6 z7 z8 z9 z10 z11 z12 z13 v0 v1 v2 v3 v4 v5 v6 v7 v8 v9 v10 v11 v12 v13:Value}{K:World→Prop}(H:Ow h F w0 w (blk k #[z0,z1,z2,z3,z4,z5,z6,z7,z8,z9,z10,z11,z12,z13] t::X))
  (h0:scalar v0=true) (h1:scalar v1=true) (h2:scalar v2=true) (h3:scalar v3=true) (h4:scalar v4=true) (h5:scalar v5=true) (h6:scalar v6=true) (h7:scalar v7=true) (h8:scalar v8=true) (h9:scalar v9=true) (h10:scalar v10=true) (h11:scalar v11=true) (h12:scalar v12=true) (h13:scalar v13=true) (hK:∀w',Ow h F w0 w' (blk k #[v0,v1,v2,v3,v4,v5,v6,v7,v8,v9,v10,v11,v12,v13] t::X)→K w'):
  St ⟨k,0,none⟩ v0 w fun w1=>St ⟨k,1,none⟩ v1 w1 fun w2=>St ⟨k,2,none⟩ v2 w2 fun w3=>St ⟨k,3,none⟩ v3 w3 fun w4=>St ⟨k,4,none⟩ v4 w4 fun w5=>St ⟨k,5,none⟩ v5 w5 fun w6=>St ⟨k,6,none⟩ v6 w6 fun w7=>St ⟨k,7,none⟩ v7 w7 fun w8=>St ⟨k,8,none⟩ v8 w8 fun w9=>St ⟨k,9,none⟩ v9 w9 fun w10=>St ⟨k,10,none⟩ v10 w10 fun w11=>St ⟨k,11,none⟩ v11 w11 fun w12=>St ⟨k,12,none⟩ v12 w12 fun w13=>St ⟨k,13,none⟩ v13 w13 K:=by
 refine H.st (c':=#[v0,z1,z2,z3,z4,z5,z6,z7,z8,z9,z10,z11,z12,z13]) .head (show 0<14 by decide) rfl h0 fun w1 H1=>?_
 refine H1.st (c':=#[v0,v1,z2,z3,z4,z5,z6,z7,z8,z9,z10,z11,z12,z13]) .head (show 1<14 by decide) rfl h1 fun w2 H2=>?_
 refine H2.st (c':=#[v0,v1,v2,z3,z4,z5,z6,z7,z8,z9,z10,z11,z12,z13]) .head (show 2<14 by decide) rfl h2 fun w3 H3=>?_
 refine H3.st (c':=#[v0,v1,v2,v3,z4,z5,z6,z7,z8,z9,z10,z11,z12,z13]) .head (show 3<14 by decide) rfl h3 fun w4 H4=>?_
 refine H4.st (c':=#[v0,v1,v2,v3,v4,z5,z6,z7,z8,z9,z10,z11,z12,z13]) .head (show 4<14 by decide) rfl h4 fun w5 H5=>?_
 refine H5.st (c':=#[v0,v1,v2,v3,v4,v5,z6,z7,z8,z9,z10,z11,z12,z13]) .head (show 5<14 by decide) rfl h5 fun w6 H6=>?_
 refine H6.st (c':=#[v0,v1,v2,v3,v4,v5,v6,z7,z8,z9,z10,z11,z12,z13]) .head (show 6<14 by decide) rfl h6 fun w7 H7=>?_
 refine H7.st (c':=#[v0,v1,v2,v3,v4,v5,v6,v7,z8,z9,z10,z11,z12,z13]) .head (show 7<14 by decide) rfl h7 fun w8 H8=>?_
 refine H8.st (c':=#[v0,v1,v2,v3,v4,v5,v6,v7,v8,z9,z10,z11,z12,z13]) .head (show 8<14 by decide) rfl h8 fun w9 H9=>?_
 refine H9.st (c':=#[v0,v1,v2,v3,v4,v5,v6,v7,v8,v9,z10,z11,z12,z13]) .head (show 9<14 by decide) rfl h9 fun w10 H10=>?_
 refine H10.st (c':=#[v0,v1,v2,v3,v4,v5,v6,v7,v8,v9,v10,z11,z12,z13]) .head (show 10<14 by decide) rfl h10 fun w11 H11=>?_
 refine H11.st (c':=#[v0,v1,v2,v3,v4,v5,v6,v7,v8,v9,v10,v11,z12,z13]) .head (show 11<14 by decide) rfl h11 fun w12 H12=>?_
 refine H12.st (c':=#[v0,v1,v2,v3,v4,v5,v6,v7,v8,v9,v10,v11,v12,z13]) .head (show 12<14 by decide) rfl h12 fun w13 H13=>?_
 refine H13.st (c':=#[v0,v1,v2,v3,v4,v5,v6,v7,v8,v9,v10,v11,v12,v13]) .head (show 13<14 by decide) rfl h13 fun w14 H14=>?_
 exact hK w14 H14
end
abbrev pC (s sr:RwS) (n q u:Nat) (j k:Option Addr):Array Value:=#[.int .i64 s.c,.int .i64 s.k,.int .i64 s.r,.slice s.pd n s.cd,.slice s.pb n s.cb,.int .i64 sr.c,.int .i64 sr.k,.int .i64 sr.r,.slice sr.pd n sr.cd,.slice sr.pb n sr.cb,.pointer (some ⟨q,0,none⟩),.pointer (some ⟨u,0,none⟩),.pointer j,.pointer k]
abbrev bX (c k r:Int) (k2 k4 k6 i:Nat) (g1 g2 g3 g4:Option Nat) (c1 c2 c3 c4:Nat) (ds rs:List Od) (d e j l:Option Addr):List A:=
 [rowP 35 1 g1 i c1 (ptrsV (blks ds)),rowP 36 1 g2 i c2 (ptrsV (blks rs)),rowP 3 1 g3 i c3 (intsI (List.replicate i r)),rowP 3 1 g4 i c4 (intsI (List.replicate i r)),
  blk k6 #[.int .i64 c,.int .i64 k,.int .i64 r,.slice (ptr g1) i c1,.slice (ptr g3) i c3,.int .i64 c,.int .i64 k,.int .i64 r,.slice (ptr g2) i c2,.slice (ptr g4) i c4,.pointer d,.pointer e,.pointer j,.pointer l] 40,
  blk k4 #[.int .i64 0,.int .i64 0,.int .i64 0,.slice none 0 0,.slice none 0 0,.int .i64 0,.int .i64 0,.int .i64 0,.slice none 0 0,.slice none 0 0,.pointer none,.pointer none,.pointer none,.pointer none] 40,blk k2 #[.int .i64 c,.int .i64 k,.int .i64 r] 26]
structure BegW (c k r:Int) (N:Nat) (s sr:RwS) (ds rs:List Od) (A:AD):Prop where
 g:s.c=c∧s.k=k∧s.r=r
 sim:Sim s sr ds rs
 ds:ads ds=List.replicate c.toNat (some (AD.new N))
 ring:RAt A 127 3 0 []
abbrev bK (s sr:RwS) (ds rs:List Od) (bu:List Int) (q u:Nat) (a b:AD):Kd:=star (star (seK s ds bu) (drK q a)) (star (reK sr rs bu) (rfK u b))
theorem begin17_spec {c k r:Int}(hc:1≤c∧c≤10) (hk:1≤k∧k≤100) (hr:1≤r∧r≤40) (jb:Bool) (w:World):
  Calls Tp 13 #[.agg #[.int .i64 c,.int .i64 k,.int .i64 r],.bool jb] w fun e w'=>∃s sr ds rs q u rj rk A,BegW c k r (4+r*k).toNat s sr ds rs A∧
   e=.returned (.tuple #[.agg (pC s sr c.toNat q u (if jb then some ⟨rj,0,none⟩ else none) (if jb then some ⟨rk,0,none⟩ else none)),.bool true])∧
   Ow (bK s sr ds rs (List.replicate c.toNat r) q u A A) [] w w' [blk rj (rgC q 3 0 1) 128,blk rk (krC u 0 1) 167]:=by
 refine(revetmentlaw17_begin_calls (R:=fun v w'=>∃s sr ds rs q u rj rk A,BegW c k r (4+r*k).toNat s sr ds rs A∧
   v=.tuple #[.agg (pC s sr c.toNat q u (if jb then some ⟨rj,0,none⟩ else none) (if jb then some ⟨rk,0,none⟩ else none)),.bool true]∧
   Ow (bK s sr ds rs (List.replicate c.toNat r) q u A A) [] w w' [blk rj (rgC q 3 0 1) 128,blk rk (krC u 0 1) 167]) ?_).mono fun e w' ⟨v,he,s,sr,ds,rs,q,u,rj,rk,A,h1,h2,h3⟩=>⟨s,sr,ds,rs,q,u,rj,rk,A,h1,by rw[he,h2],h3⟩
 unfold revetmentlaw17_begin
 have hrk:1≤r*k∧r*k≤4000:=by
  obtain⟨h1,h2⟩:=hr
  obtain⟨h3,h4⟩:=hk
  refine⟨?_,?_⟩
  ·have:=Int.mul_le_mul h1 h3 (by omega) (by omega); omega
  ·have:=Int.mul_le_mul h2 h4 (by omega) (by omega); omega
 obtain⟨n,hn⟩:∃n:Nat,4+r*k=(n:Int):=⟨(4+r*k).toNat,by omega⟩
 have hnb:1≤n∧n≤4096:=by omega
 refine Alloc.t (T.nil w) fun k2 w1 h1=>Alloc.t h1 fun k4 w2 h2=>?_
 refine⟨_,_,_,⟨h2.ld (b:=k2) (by repeat constructor) rfl,h2.ld (b:=k2) (by repeat constructor) rfl,h2.ld (b:=k2) (by repeat constructor) rfl⟩,?_⟩
 refine⟨_,_,_,⟨h2.ld (b:=k2) (by repeat constructor) rfl,h2.ld (b:=k2) (by repeat constructor) rfl,h2.ld (b:=k2) (by repeat constructor) rfl⟩,?_⟩
 have h2':Ow (star (dsK []) (rsK [])) [] w w2 [blk k4 #[.int .i64 0,.int .i64 0,.int .i64 0,.slice none 0 0,.slice none 0 0,.int .i64 0,.int .i64 0,.int .i64 0,.slice none 0 0,.slice none 0 0,.pointer none,.pointer none,.pointer none,.pointer none] 40,blk k2 #[.int .i64 c,.int .i64 k,.int .i64 r] 26]:=⟨[],⟨[],[],rfl,rfl,rfl⟩,by rw[List.append_nil]; exact h2⟩
 refine h2'.alloc fun k6 w3 h3=>?_
 refine Ow.st14 h3 rfl rfl rfl rfl rfl rfl rfl rfl rfl rfl rfl rfl rfl rfl fun w4 h4=>?_
 refine⟨_,h4.ld (b:=k2) (by repeat constructor) rfl,_,h4.ld (b:=k2) (by repeat constructor) rfl,?_⟩
 rw[wrap64 (r*k) (by omega) (by omega),wrap64 (4+r*k) (by omega) (by omega),hn]
 have h8:Ow (star (dsK []) (rsK [])) [] w w4 (bX c k r k2 k4 k6 0 none none none none 0 0 0 0 [] [] none none none none):=by
  obtain⟨Y,hY,hT⟩:=h4
  refine⟨Y,hY,?_⟩
  exact T.nilRow (T.nilRow (T.nilRow (T.nilRow hT 3 1) 3 1) 36 1) 35 1
 clear h1 h2 h2' h3 h4
 refine⟨fun vs w'=>∃(i:Nat) (g1 g2 g3 g4:Option Nat) (c1 c2 c3 c4:Nat) (ds rs:List Od),vs=[.int .i64 (i:Int)]∧(i:Int)≤c∧ads ds=List.replicate i (some (AD.new n))∧ads rs=List.replicate i (some (AD.new n))∧Ow (star (dsK ds) (rsK rs)) [] w w' (bX c k r k2 k4 k6 i g1 g2 g3 g4 c1 c2 c3 c4 ds rs none none none none),fun vs _=>match vs with|[.int _ i]=>(c-i).toNat|_=>0,⟨0,none,none,none,none,0,0,0,0,[],[],rfl,by omega,rfl,rfl,h8⟩,?_⟩
 clear h8
 rintro vs w8 ⟨i,g1,g2,g3,g4,c1,c2,c3,c4,ds,rs,rfl,hi,hds,hrs,H⟩
 have hsnoc:∀(l:List Od) (q:Nat),ads l=List.replicate i (some (AD.new n))→ads (l++[some (q,AD.new n)])=List.replicate (i+1) (some (AD.new n)):=fun l q hl=>by
  rw[ads_snoc,hl,List.replicate_succ']; rfl
 have hrep:intsI (List.replicate i r)++[.int .i64 r]=intsI (List.replicate (i+1) r):=by rw[intsI_snoc,List.replicate_succ']
 have hdsl:ds.length=i:=by have:=congrArg List.length hds; simpa[ads] using this
 refine⟨_,rfl,_,H.ld (b:=k2) (by repeat constructor) rfl,dec_t fun hlt=>?_,dec_f fun hge=>?_⟩
 ·refine⟨fun w'=>w'.cell? ⟨k6,3,none⟩=some (.slice (ptr g1) i c1),H.drew.ld (b:=k6) (by repeat constructor) rfl,_,_,_,fun _ h=>h,?_⟩
  refine Ow.newD H.drew hnb fun q w9 H9=>⟨_,rfl,(Ow.ld H9 (b:=k6) (by repeat constructor) rfl),?_⟩
  have H9:=Ow.addD H9
  refine push_owD (i:=Tryz.t35) (z:=.pointer none) (v:=.pointer (some ⟨q,0,none⟩)) (g:=g1) (by kernel_rfl) (by kernel_rfl) (by kernel_rfl) (by kernel_rfl) (by kernel_rfl) (by kernel_rfl) H9 .head rfl (by omega) (fun b w' h'=>Ow.ld h' (b:=k6) (by repeat constructor) rfl) fun g1' c1' w10 H10=>?_
  have eb1:ptrsV (blks ds)++[.pointer (some ⟨q,0,none⟩)]=ptrsV (blks (ds++[some (q,AD.new n)])):=(blks_snoc ds (some (q,AD.new n))).symm
  rw[eb1]at H10
  refine⟨Ow.ld H10 (b:=k6) (by repeat constructor) rfl,?_⟩
  refine H10.st (c':=#[.int .i64 c,.int .i64 k,.int .i64 r,.slice (ptr (some g1')) (i+1) c1',.slice (ptr g3) i c3,.int .i64 c,.int .i64 k,.int .i64 r,.slice (ptr g2) i c2,.slice (ptr g4) i c4,.pointer none,.pointer none,.pointer none,.pointer none]) (by repeat constructor) (by simp) rfl rfl fun w11 H11=>?_
  refine⟨fun w'=>w'.cell? ⟨k6,8,none⟩=some (.slice (ptr g2) i c2),H11.drew.ld (b:=k6) (by repeat constructor) rfl,_,_,_,fun _ h=>h,?_⟩
  refine Ow.newR H11.drew hnb fun q2 w12 H12=>⟨_,rfl,(Ow.ld H12 (b:=k6) (by repeat constructor) rfl),?_⟩
  have H12:=Ow.addR H12
  refine push_owD (i:=Tryz.t36) (z:=.pointer none) (v:=.pointer (some ⟨q2,0,none⟩)) (g:=g2) (by kernel_rfl) (by kernel_rfl) (by kernel_rfl) (by kernel_rfl) (by kernel_rfl) (by kernel_rfl) H12 (.tail .head) rfl (by omega) (fun b w' h'=>Ow.ld h' (b:=k6) (by repeat constructor) rfl) fun g2' c2' w13 H13=>?_
  have eb2:ptrsV (blks rs)++[.pointer (some ⟨q2,0,none⟩)]=ptrsV (blks (rs++[some (q2,AD.new n)])):=(blks_snoc rs (some (q2,AD.new n))).symm
  rw[eb2]at H13
  refine⟨Ow.ld H13 (b:=k6) (by repeat constructor) rfl,?_⟩
  refine H13.st (c':=#[.int .i64 c,.int .i64 k,.int .i64 r,.slice (ptr (some g1')) (i+1) c1',.slice (ptr g3) i c3,.int .i64 c,.int .i64 k,.int .i64 r,.slice (ptr (some g2')) (i+1) c2',.slice (ptr g4) i c4,.pointer none,.pointer none,.pointer none,.pointer none]) (by repeat constructor) (by simp) rfl rfl fun w14 H14=>?_
  refine⟨_,_,_,H14.ld (b:=k6) (by repeat constructor) rfl,_,H14.ld (b:=k2) (by repeat constructor) rfl,?_⟩
  refine push_owN (i:=Tryz.t3) (z:=.int .i64 0) (v:=.int .i64 r) (g:=g3) (by kernel_rfl) (by kernel_rfl) (by kernel_rfl) (by kernel_rfl) (by kernel_rfl) (by kernel_rfl) H14 (.tail (.tail .head)) rfl (by omega) fun g3' c3' w15 H15=>?_
  rw[hrep]at H15
  refine H15.st (c':=#[.int .i64 c,.int .i64 k,.int .i64 r,.slice (ptr (some g1')) (i+1) c1',.slice (ptr (some g3')) (i+1) c3',.int .i64 c,.int .i64 k,.int .i64 r,.slice (ptr (some g2')) (i+1) c2',.slice (ptr g4) i c4,.pointer none,.pointer none,.pointer none,.pointer none]) (by repeat constructor) (by simp) rfl rfl fun w16 H16=>?_
  refine⟨_,_,_,H16.ld (b:=k6) (by repeat constructor) rfl,_,H16.ld (b:=k2) (by repeat constructor) rfl,?_⟩
  refine push_owN (i:=Tryz.t3) (z:=.int .i64 0) (v:=.int .i64 r) (g:=g4) (by kernel_rfl) (by kernel_rfl) (by kernel_rfl) (by kernel_rfl) (by kernel_rfl) (by kernel_rfl) H16 (.tail (.tail (.tail .head))) rfl (by omega) fun g4' c4' w17 H17=>?_
  rw[hrep]at H17
  refine H17.st (c':=#[.int .i64 c,.int .i64 k,.int .i64 r,.slice (ptr (some g1')) (i+1) c1',.slice (ptr (some g3')) (i+1) c3',.int .i64 c,.int .i64 k,.int .i64 r,.slice (ptr (some g2')) (i+1) c2',.slice (ptr (some g4')) (i+1) c4',.pointer none,.pointer none,.pointer none,.pointer none]) (by repeat constructor) (by simp) rfl rfl fun w18 H18=>?_
  have H18:Ow (star (dsK (ds++[some (q,AD.new n)])) (rsK (rs++[some (q2,AD.new n)]))) [] w w18 (bX c k r k2 k4 k6 (i+1) (some g1') (some g2') (some g3') (some g4') c1' c2' c3' c4' (ds++[some (q,AD.new n)]) (rs++[some (q2,AD.new n)]) none none none none):=by
   refine H18.perm ?_
   exact(Pick.perm (a:=rowP 35 1 (some g1') (i+1) c1' (ptrsV (blks (ds++[some (q,AD.new n)])))) (.tail (.tail (.tail .head)))).trans (List.Perm.cons _ ((Pick.perm (a:=rowP 36 1 (some g2') (i+1) c2' (ptrsV (blks (rs++[some (q2,AD.new n)])))) (.tail (.tail .head))).trans (List.Perm.cons _ (.swap _ _ _))))
  have hpc:w18.cell? (Addr.add ⟨g1',0,none⟩ (i*1))=some (.pointer (some ⟨q,0,none⟩)):=by
   have:=T.pcell (k:=i) (ps:=blks (ds++[some (q,AD.new n)])) H18.under (b:=g1') (n:=i+1) (cap:=c1') (t:=35) (by repeat constructor) (by rw[blks_len]; simp[hdsl])
   have e:(blks (ds++[some (q,AD.new n)])).getD i none=some q:=by
    unfold blks
    rw[List.map_append,List.getD_eq_getElem?_getD,List.getElem?_append_right (by simp[hdsl])]
    simp[hdsl,odB]
   rw[e]at this
   exact this
  refine⟨_,_,_,H18.ld (b:=k6) (by repeat constructor) rfl,⟨g1',0,none⟩,rfl,by omega,by omega,_,by rw[Int.toNat_natCast]; exact hpc,no rfl ?_⟩
  refine⟨⟨i+1,some g1',some g2',some g3',some g4',c1',c2',c3',c4',ds++[some (q,AD.new n)],rs++[some (q2,AD.new n)],by rw[wrap64 _ (by omega) (by omega)]; rfl,by omega,hsnoc ds q hds,hsnoc rs q2 hrs,H18⟩,?_⟩
  show(c-IntKind.i64.wrap ((i:Int)+1)).toNat<(c-(i:Int)).toNat
  rw[wrap64 _ (by omega) (by omega)]; omega
 ·have hic:(i:Int)=c:=by omega
  have hcn:c.toNat=i:=by omega
  have hrsl:rs.length=i:=by have:=congrArg List.length hrs; simpa[ads] using this
  obtain⟨b1,rfl⟩:∃b,g1=some b:=rowP.pos (H.under.says (x:=rowP 35 1 g1 i c1 (ptrsV (blks ds))) (by repeat constructor)) (by omega)
  obtain⟨b2,rfl⟩:∃b,g2=some b:=rowP.pos (H.under.says (x:=rowP 36 1 g2 i c2 (ptrsV (blks rs))) (by repeat constructor)) (by omega)
  obtain⟨b3,rfl⟩:∃b,g3=some b:=rowP.pos (H.under.says (x:=rowP 3 1 g3 i c3 (intsI (List.replicate i r))) (by repeat constructor)) (by omega)
  obtain⟨b4,rfl⟩:∃b,g4=some b:=rowP.pos (H.under.says (x:=rowP 3 1 g4 i c4 (intsI (List.replicate i r))) (by repeat constructor)) (by omega)
  refine Ow.newD H (n:=127) (by omega) fun q w9 H9=>⟨_,rfl,?_⟩
  refine H9.st (c':=#[.int .i64 c,.int .i64 k,.int .i64 r,.slice (ptr (some b1)) i c1,.slice (ptr (some b3)) i c3,.int .i64 c,.int .i64 k,.int .i64 r,.slice (ptr (some b2)) i c2,.slice (ptr (some b4)) i c4,.pointer (some ⟨q,0,none⟩),.pointer none,.pointer none,.pointer none]) (by repeat constructor) (by simp) rfl rfl fun w10 H10=>?_
  refine Ow.newR H10 (n:=127) (by omega) fun u w11 H11=>⟨_,rfl,?_⟩
  refine H11.st (c':=#[.int .i64 c,.int .i64 k,.int .i64 r,.slice (ptr (some b1)) i c1,.slice (ptr (some b3)) i c3,.int .i64 c,.int .i64 k,.int .i64 r,.slice (ptr (some b2)) i c2,.slice (ptr (some b4)) i c4,.pointer (some ⟨q,0,none⟩),.pointer (some ⟨u,0,none⟩),.pointer none,.pointer none]) (by repeat constructor) (by simp) rfl rfl fun w12 H12=>?_
  have H12:Ow (star (rfK u (AD.new 127)) (star (drK q (AD.new 127)) (star (dsK ds) (rsK rs)))) [] w w12 (bX c k r k2 k4 k6 i (some b1) (some b2) (some b3) (some b4) c1 c2 c3 c4 ds rs (some ⟨q,0,none⟩) (some ⟨u,0,none⟩) none none):=H12
  refine⟨_,H12.ld (b:=k6) (by repeat constructor) rfl,no rfl ⟨_,H12.ld (b:=k6) (by repeat constructor) rfl,?_⟩⟩
  obtain⟨hA0,hRA⟩:=format_at (S:=3) (hold_new 127).wet (by decide) (by decide) (by decide)
  have hAl:(AD.new 127).safe.length≤4096:=by rw[(AD.On.new 127).len]; omega
  generalize hAe:(formatF (AD.new 127)).1=A at hRA
  refine Ow.useFst (Ow.rot H12) fun Z hZ hb=>(format_spec (Ow.dr hZ) (few_new 127 100) (by omega) hAl).mono fun e w13 ⟨he13,h13⟩=>⟨_,he13,?_⟩
  try dsimp only
  rw[hAe]at h13
  have H13:=hb _ _ _ (Dr.ow h13)
  rw[hA0]
  refine no rfl ⟨_,H13.ld (b:=k6) (by repeat constructor) rfl,?_⟩
  clear hb h13 hZ
  refine Ow.useFst (Ow.rot H13) fun Z hZ hb=>(format13_spec (Ow.rf hZ) (few_new 127 100) (by omega)).mono fun e w14 ⟨he14,h14⟩=>⟨_,he14,?_⟩
  try dsimp only
  rw[hAe]at h14
  have H14:=hb _ _ _ (Rf.ow h14)
  rw[hA0]
  refine no rfl ⟨_,H14.ld (b:=k6) (by repeat constructor) rfl,?_⟩
  clear hb h14 hZ
  refine Ow.useFst (Ow.rot H14) fun Z hZ hb=>?_
  have hsz:=fun j=>(Ow.dr hZ).size_of j
  have hs3:=fun h0=>(Ow.dr hZ).read_64 (i:=3) h0
  refine ropen_u (Ow.dr hZ) hRA fun rj gj cj lx w15 hlx h15=>⟨_,_,_,_,_,rfl,?_⟩
  have hlx0:lx=[]:=by
   have:=congrArg List.length hlx
   rw[numb_len,List.length_map]at this
   exact List.eq_nil_of_length_eq_zero this
  subst hlx0
  have h15:Ow (drK q A) [] w w15 (rowP 75 3 gj 0 cj (rxL [])::(blk rj (rgC q 3 0 1) 128::bX c k r k2 k4 k6 i (some b1) (some b2) (some b3) (some b4) c1 c2 c3 c4 ds rs (some ⟨q,0,none⟩) (some ⟨u,0,none⟩) none none)++Z):=(Dr.ow h15).perm (.swap _ _ _)
  have H15:=hb _ _ _ h15.dropX
  clear hb h15 hZ
  refine⟨_,H15.ld (b:=k6) (by repeat constructor) rfl,?_⟩
  refine Ow.useFst (Ow.rot H15) fun Z hZ hb=>(open13_ring (Ow.rf hZ) (hRA.few _) hsz hs3).mono fun e w16 h16=>?_
  obtain⟨hOp,hFo,hAl2⟩:openF A=(0,0)∧recsF A 3 3 (0+1)=[]∧(slotsN (A.safe.length:Int)).toNat=3:=by
   obtain⟨hS,hN,f,hf,hr⟩:=hRA
   exact⟨hr.opened hf.wet hS,hr.found hf.wet,by rw[hf.on.len]; decide⟩
  rw[hOp,hAl2]at h16
  rcases h16 with⟨h0,_⟩|⟨_,_,rk,gk,ck,ly,he16,hly,h16⟩
  ·exact absurd rfl h0
  have hly0:ly=[]:=by
   rw[show((((0:Nat),(0:Int)).1+1)%2 ^ 64:Nat)=0+1 from rfl,hFo]at hly
   exact List.map_eq_nil_iff.1 hly
  subst hly0
  have h16:Ow (rfK u A) [] w w16 (rowP 79 3 gk 0 ck (rxL [])::(blk rk (krC u 0 1) 167::blk rj (rgC q 3 0 1) 128::bX c k r k2 k4 k6 i (some b1) (some b2) (some b3) (some b4) c1 c2 c3 c4 ds rs (some ⟨q,0,none⟩) (some ⟨u,0,none⟩) none none)++Z):=(Rf.ow h16).perm (.swap _ _ _)
  have H16:=hb _ _ _ h16.dropX
  clear hb h16 hZ
  refine⟨_,_,_,_,_,he16,?_⟩
  refine Join.intro fun J hJ=>?_
  have fin:∀(jx kx:Option Addr) (w':World),jx=(if jb then some ⟨rj,0,none⟩ else none)→kx=(if jb then some ⟨rk,0,none⟩ else none)→Ow (star (rfK u A) (star (drK q A) (star (dsK ds) (rsK rs)))) [] w w' (blk rk (krC u 0 1) 167::blk rj (rgC q 3 0 1) 128::bX c k r k2 k4 k6 i (some b1) (some b2) (some b3) (some b4) c1 c2 c3 c4 ds rs (some ⟨q,0,none⟩) (some ⟨u,0,none⟩) jx kx)→J [] w':=by
   intro jx kx w' ejx ekx H17
   refine hJ _ _ ⟨rfl,_,_,_,_,_,_,_,_,_,_,_,_,_,_,_,_,_,_,_,_,_,_,⟨H17.ld (b:=k6) (by repeat constructor) rfl,H17.ld (b:=k6) (by repeat constructor) rfl,H17.ld (b:=k6) (by repeat constructor) rfl,H17.ld (b:=k6) (by repeat constructor) rfl,H17.ld (b:=k6) (by repeat constructor) rfl,H17.ld (b:=k6) (by repeat constructor) rfl,H17.ld (b:=k6) (by repeat constructor) rfl,H17.ld (b:=k6) (by repeat constructor) rfl,H17.ld (b:=k6) (by repeat constructor) rfl,H17.ld (b:=k6) (by repeat constructor) rfl,H17.ld (b:=k6) (by repeat constructor) rfl,H17.ld (b:=k6) (by repeat constructor) rfl,H17.ld (b:=k6) (by repeat constructor) rfl,H17.ld (b:=k6) (by repeat constructor) rfl⟩,yes rfl ?_⟩
   have H17:=H17.perm (Pick.perm (a:=blk k4 #[.int .i64 0,.int .i64 0,.int .i64 0,.slice none 0 0,.slice none 0 0,.int .i64 0,.int .i64 0,.int .i64 0,.slice none 0 0,.slice none 0 0,.pointer none,.pointer none,.pointer none,.pointer none] 40) (by repeat constructor))
   refine Ow.st14 H17 rfl rfl rfl rfl rfl rfl rfl rfl rfl rfl rfl rfl rfl rfl fun w18 H18=>?_
   refine⟨_,_,_,_,_,_,_,_,_,_,_,_,_,_,_,_,_,_,_,_,_,_,⟨H18.ld (b:=k4) (by repeat constructor) rfl,H18.ld (b:=k4) (by repeat constructor) rfl,H18.ld (b:=k4) (by repeat constructor) rfl,H18.ld (b:=k4) (by repeat constructor) rfl,H18.ld (b:=k4) (by repeat constructor) rfl,H18.ld (b:=k4) (by repeat constructor) rfl,H18.ld (b:=k4) (by repeat constructor) rfl,H18.ld (b:=k4) (by repeat constructor) rfl,H18.ld (b:=k4) (by repeat constructor) rfl,H18.ld (b:=k4) (by repeat constructor) rfl,H18.ld (b:=k4) (by repeat constructor) rfl,H18.ld (b:=k4) (by repeat constructor) rfl,H18.ld (b:=k4) (by repeat constructor) rfl,H18.ld (b:=k4) (by repeat constructor) rfl⟩,?_⟩
   rw[hcn]
   refine⟨⟨c,k,r,some ⟨b1,0,none⟩,c1,some ⟨b3,0,none⟩,c3⟩,⟨c,k,r,some ⟨b2,0,none⟩,c2,some ⟨b4,0,none⟩,c4⟩,ds,rs,q,u,rj,rk,A,⟨⟨rfl,rfl,rfl⟩,⟨rfl,rfl,rfl,by rw[hds,hrs]⟩,by rw[hds,hcn,Int.toNat_natCast],hRA⟩,by rw[ejx,ekx]; rfl,?_⟩
   obtain⟨_,⟨Yu,_,hu,⟨Yq,_,hq,⟨Yd,Yr,hd,hr',rfl⟩,rfl⟩,rfl⟩,hT⟩:=H18
   refine⟨_,⟨_,_,⟨_,_,⟨b1,b3,Yd,rfl,rfl,hd,rfl⟩,hq,rfl⟩,⟨_,_,⟨b2,b4,Yr,rfl,rfl,hr',rfl⟩,hu,rfl⟩,rfl⟩,?_⟩
   unfold seR reR
   rw[List.length_replicate,hdsl,hrsl]
   refine T.leave (Δ:=[blk k4 (pC ⟨c,k,r,some ⟨b1,0,none⟩,c1,some ⟨b3,0,none⟩,c3⟩ ⟨c,k,r,some ⟨b2,0,none⟩,c2,some ⟨b4,0,none⟩,c4⟩ i q u jx kx) 40,blk k6 (pC ⟨c,k,r,some ⟨b1,0,none⟩,c1,some ⟨b3,0,none⟩,c3⟩ ⟨c,k,r,some ⟨b2,0,none⟩,c2,some ⟨b4,0,none⟩,c4⟩ i q u jx kx) 40,blk k2 #[.int .i64 c,.int .i64 k,.int .i64 r] 26]) (hT.swap ?_)
   classical
   refine List.perm_iff_count.2 fun x=>?_
   simp only[List.count_append,List.count_cons,List.count_nil,Nat.zero_add,Nat.add_zero]
   ac_rfl
  refine⟨fun hj=>?_,fun hj=>fin none none w16 (by rw[hj]; rfl) (by rw[hj]; rfl) H16⟩
  refine H16.st (c':=#[.int .i64 c,.int .i64 k,.int .i64 r,.slice (ptr (some b1)) i c1,.slice (ptr (some b3)) i c3,.int .i64 c,.int .i64 k,.int .i64 r,.slice (ptr (some b2)) i c2,.slice (ptr (some b4)) i c4,.pointer (some ⟨q,0,none⟩),.pointer (some ⟨u,0,none⟩),.pointer (some ⟨rj,0,none⟩),.pointer none]) (by repeat constructor) (by simp) rfl rfl fun w17 H17=>?_
  refine H17.st (c':=#[.int .i64 c,.int .i64 k,.int .i64 r,.slice (ptr (some b1)) i c1,.slice (ptr (some b3)) i c3,.int .i64 c,.int .i64 k,.int .i64 r,.slice (ptr (some b2)) i c2,.slice (ptr (some b4)) i c4,.pointer (some ⟨q,0,none⟩),.pointer (some ⟨u,0,none⟩),.pointer (some ⟨rj,0,none⟩),.pointer (some ⟨rk,0,none⟩)]) (by repeat constructor) (by simp) rfl rfl fun w18 H18=>?_
  exact fin _ _ w18 (by rw[hj]; rfl) (by rw[hj]; rfl) H18
end Go.Proofs.YtkknkmplmilihaaGreat
end
section
namespace Go.Sh
open Go.RowKit
end Go.Sh
end
section
namespace Go.Proofs.YtkknkmplmilihaaGreat
open Go.Sh Go.RowKit
theorem app_ok {Lg X:List Txt}{c:Nat}{l:List Int}(hL:GoodL Lg 64) (hc:Lg.length=c) (hX:X.length=c) (hn:l.Nodup) (hb:∀x∈l,0≤x∧x<(c:Int)) (hs:∀i,i<c→(i:Int)∉l→X.getD i []=Lg.getD i []):OkM X l∧(l.length≤2→fillF X l=Lg):=by
 have h4:=hL.n4
 have h10:=hL.n10
 have hok:OkM X l:=⟨by omega,by omega,fun x hx=>by rw[hX]; exact hb x hx,hn,64,by omega,fun j hj hjn=>by rw[hs j (by omega) hjn]; exact hL.all j (by omega)⟩
 exact⟨hok,fun h2=>fill_back (m:=64) hok h2 (by omega) hL.all (fun i hi hin=>hs i (by omega) hin) fun j=>hL.filled _ j⟩
section
variable {s:RwS}{ds:List Od}{bu:List Int}{row:Int}{w0 w:World}{X:List A}{N M kk c g r:Nat}{K:Nat→Nat}{f:Nat→Nat→ByteArray}{Lg:Nat→List Txt}
end
theorem zero_txt:zeroSec.data.toList=List.replicate 64 0:=by decide
theorem rwT_zero (s:RwS) (row off:Int) (c:Nat):rwT s (fun _ _=>zeroSec) row off c=List.replicate c (List.replicate 64 0):=by
 unfold rwT
 refine List.eq_replicate_iff.2 ⟨by simp,fun b hb=>?_⟩
 obtain⟨i,_,rfl⟩:=List.mem_map.1 hb
 exact zero_txt
theorem repl_getD {n i:Nat}{x:Int}(h:i<n):(List.replicate n x).getD i 0=x:=by
 rw[List.getD_eq_getElem?_getD,List.getElem?_replicate,if_pos h]; rfl
theorem full_len (x:ByteArray):(fullB x).data.toList.length=64:=by
 have:((fullB x).data.toList).length=(fullB x).size:=by rw[Array.length_toList]; rfl
 exact this.trans (fullB_size x)
theorem lostK_no {s:RwS}{bu:List Int}{K:Nat→Nat}{row:Int}{i:Nat}(h:K (colR s row i).toNat≠1) (hb:row<bu.getD (colR s row i).toNat 0):lostK s bu K row i=false:=by unfold lostK; rw[decide_eq_false h,decide_eq_false (by omega)]; rfl
theorem geo17_spec {a b d:Int}(ha:0≤a∧a≤255) (hb:0≤b∧b≤255) (hd:0≤d∧d≤255) (w:World):
  Ret Tp 12 #[.int .u8 a,.int .u8 b,.int .u8 d] w (.agg #[.int .i64 (4+a%4),.int .i64 (1+b%3),.int .i64 (1+d%6)]):=by
 refine ret_of (revetmentlaw17_geometry_calls ?_)
 unfold revetmentlaw17_geometry
 have e:∀{x:Int} {n:Int},0≤x∧x≤255→Int.tmod (IntKind.i64.wrap x) n=x%n:=fun {x n} hx=>by
  rw[wrap64 x (by omega) (by omega),Int.tmod_eq_emod_of_nonneg hx.1]
 rw[e ha,e hb,e hd,wrap64 (4+a%4) (by omega) (by omega),wrap64 (1+b%3) (by omega) (by omega),wrap64 (1+d%6) (by omega) (by omega)]
 refine Alloc.t (T.nil w) fun k1 w1 h1=>St.t h1 .head (by simp) rfl rfl fun w2 h2=>St.t h2 .head (by simp) rfl rfl fun w3 h3=>St.t h3 .head (by simp) rfl rfl fun w4 h4=>?_
 exact⟨_,_,_,⟨h4.ld (b:=k1) (by repeat constructor) rfl,h4.ld (b:=k1) (by repeat constructor) rfl,h4.ld (b:=k1) (by repeat constructor) rfl⟩,rfl,h4.chg.ext⟩
theorem full17_spec (s:ByteArray) (hs:s.size≤9000000000000000000) (w:World):Ret Tp 15 #[.string s] w (.string (fullB s)):=by
 refine ret_of (revetmentlaw17_full_calls ?_)
 unfold revetmentlaw17_full
 refine(blank_spec w).mono fun e w1 ⟨he,hx⟩=>⟨_,he,by rw[zeroSec_size]; omega,_,_,slice_to (by kernel_rfl) (by omega) (by rw[ByteArray.size_append,zeroSec_size]; omega),rfl,hx⟩
def Rng64 (n:Int):Prop:=-9223372036854775808≤n∧n≤9223372036854775807
def absI (n:Int):Int:=if n<0 then -(n+1) else n
theorem absI_in {n:Int}(h:Rng64 n):0≤absI n∧absI n≤9223372036854775807:=by unfold absI Rng64 at *; split<;>omega
theorem abs17_spec {n:Int}(h:Rng64 n) (w:World):Ret Tp 14 #[.int .i64 n] w (.int .i64 (absI n)):=by
 refine ret_of (revetmentlaw17_abs_calls ?_)
 unfold revetmentlaw17_abs absI
 unfold Rng64 at h
 refine⟨dec_t fun hn=>⟨?_,.refl w⟩,dec_f fun hn=>⟨?_,.refl w⟩⟩
 ·rw[if_pos hn,wrap64 (n+1) (by omega) (by omega),wrap64 _ (by omega) (by omega)]
  congr 1; omega
 ·rw[if_neg hn]
def weighsR (l:List RP):Bool:=decide (30<l.length)||l.any fun x=>decide (100<x.data.length)
theorem weighs17_spec {l:List RP}{p:Option Addr}{c:Nat}{w:World}(h:partsAt w p l):Ret Tp 10 #[.slice p l.length c] w (.bool (weighsR l)):=by
 refine ret_of (revetmentlaw17_weighs_calls ?_)
 unfold revetmentlaw17_weighs
 refine⟨dec_t fun h1=>⟨?_,Ext.refl w⟩,dec_f fun h1=>?_⟩
 ·unfold weighsR; rw[decide_eq_true (by omega)]; rfl
 refine⟨fun vs w'=>w'=w∧∃i:Nat,vs=[.int .i64 (i:Int)]∧i≤l.length∧(l.take i).any (fun x=>decide (100<x.data.length))=false,fun vs _=>match vs with|[.int _ i]=>(l.length-i).toNat|_=>0,⟨rfl,0,rfl,by omega,rfl⟩,?_⟩
 rintro vs w1 ⟨rfl,i,rfl,hi,hs⟩
 refine⟨_,rfl,dec_t fun hlt=>?_,dec_f fun hge=>?_⟩
 ·have hlt:i<l.length:=by omega
  obtain⟨a,ha,_,_,hc⟩:=h.get hlt
  refine⟨a,ha,by omega,by omega,_,by rw[Int.toNat_natCast]; exact hc,?_⟩
  rw[strB_size]
  refine⟨dec_t fun hb=>⟨?_,Ext.refl _⟩,dec_f fun hb=>⟨⟨rfl,i+1,?_,by omega,?_⟩,?_⟩⟩
  ·have:l.any (fun x=>decide (100<x.data.length))=true:=List.any_eq_true.2 ⟨l[i],List.getElem_mem hlt,decide_eq_true (by omega)⟩
   unfold weighsR; rw[this,Bool.or_true]
  ·rw[wrap64 _ (by omega) (by omega)]; rfl
  ·rw[List.take_add_one,List.getElem?_eq_getElem hlt,List.any_append,hs]
   simp; omega
  ·show((l.length:Int)-IntKind.i64.wrap ((i:Int)+1)).toNat<((l.length:Int)-(i:Int)).toNat
   rw[wrap64 _ (by omega) (by omega)]; omega
 ·have hie:i=l.length:=by omega
  subst hie
  rw[List.take_length]at hs
  refine⟨?_,Ext.refl _⟩
  unfold weighsR
  rw[hs,decide_eq_false (by omega)]; rfl
theorem weighsR_short {l:List RP}(h:weighsR l=false):l.length≤30∧∀x∈l,x.data.length≤100:=by
 unfold weighsR at h
 rw[Bool.or_eq_false_iff]at h
 refine⟨by have:=of_decide_eq_false h.1; omega,fun x hx=>?_⟩
 have:=List.any_eq_false.1 h.2 x hx
 have:=of_decide_eq_false (Bool.eq_false_iff.2 this)
 omega
def normR (c k:Int) (x:RP):RP:=⟨absI x.col%(c-2),absI x.off%k,(fullB (strB x.data)).data.toList⟩
def sameP (x y:RP):Bool:=y.col==x.col&&y.off==x.off
def dstF (l:List RP):List RP:=l.foldl (fun Z x=>if Z.any (sameP x) then Z else Z++[x]) []
theorem dstF_snoc (l:List RP) (x:RP):dstF (l++[x])=if (dstF l).any (sameP x) then dstF l else dstF l++[x]:=by
 unfold dstF; rw[List.foldl_append]; rfl
theorem snoc_ind {α:Type}{P:List α→Prop}(h0:P []) (hs:∀l x,P l→P (l++[x])) (l:List α):P l:=by
 have:∀m:List α,P m.reverse:=fun m=>by
  induction m with
  |nil=>exact h0
  |cons x m ih=>rw[List.reverse_cons]; exact hs _ _ ih
 have:=this l.reverse
 rwa [List.reverse_reverse]at this
theorem sameP_iff {x y:RP}:sameP x y=true↔y.col=x.col∧y.off=x.off:=by unfold sameP; simp
theorem dstF_mem {l:List RP}:∀x∈dstF l,x∈l:=by
 refine snoc_ind (P:=fun l=>∀x∈dstF l,x∈l) (fun x h=>by cases h) (fun l x ih y hy=>?_) l
 rw[dstF_snoc]at hy
 split at hy
 ·exact List.mem_append_left _ (ih y hy)
 ·rcases List.mem_append.1 hy with hy|hy
  ·exact List.mem_append_left _ (ih y hy)
  ·exact List.mem_append_right _ hy
theorem dstF_nodup {l:List RP}:((dstF l).map fun x=>(x.off,x.col)).Nodup:=by
 refine snoc_ind (P:=fun l=>((dstF l).map fun x=>(x.off,x.col)).Nodup) (by simp[dstF]) (fun l x ih=>?_) l
 rw[dstF_snoc]
 split
 ·exact ih
 ·rename_i h
  rw[List.map_append,List.nodup_append]
  refine⟨ih,by simp,fun a ha b hb e=>?_⟩
  obtain⟨y,hy,rfl⟩:=List.mem_map.1 ha
  have hb:b=(x.off,x.col):=by simpa using hb
  rw[hb]at e
  exact h (List.any_eq_true.2 ⟨y,hy,sameP_iff.2 ⟨(Prod.mk.inj e).2,(Prod.mk.inj e).1⟩⟩)
theorem dstF_len (l:List RP):(dstF l).length≤l.length:=by
 refine snoc_ind (P:=fun l=>(dstF l).length≤l.length) (Nat.le_refl _) (fun l x ih=>?_) l
 rw[dstF_snoc,List.length_append]
 split
 ·exact Nat.le_trans ih (Nat.le_add_right _ _)
 ·rw[List.length_append]; exact Nat.add_le_add_right ih _
def distR (c k:Int) (l:List RP):List RP:=dstF (l.map (normR c k))
theorem distR_ok {c k:Int}(hc:4≤c) (hk:1≤k){l:List RP}:(∀x∈distR c k l,(0≤x.col∧x.col<c-2)∧(0≤x.off∧x.off<k)∧x.data.length=64)∧((distR c k l).map fun x=>(x.off,x.col)).Nodup:=by
 refine⟨fun x hx=>?_,dstF_nodup⟩
 obtain⟨y,_,rfl⟩:=List.mem_map.1 (dstF_mem x hx)
 exact⟨⟨Int.emod_nonneg _ (by omega),Int.emod_lt_of_pos _ (by omega)⟩,⟨Int.emod_nonneg _ (by omega),Int.emod_lt_of_pos _ (by omega)⟩,full_len _⟩
def RngC (x:RP):Prop:=Rng64 x.col∧Rng64 x.off
def keyP (x:RP):Int:=x.col*8+x.off
theorem keyP_inj {x y:RP}(hx:0≤x.off∧x.off<8) (hy:0≤y.off∧y.off<8):keyP x=keyP y↔x.col=y.col∧x.off=y.off:=by
 unfold keyP; omega
theorem normR_in {c k:Int}(hc:4≤c) (hk:1≤k) (x:RP):(0≤(normR c k x).col∧(normR c k x).col<c-2)∧(0≤(normR c k x).off∧(normR c k x).off<k):=
 ⟨⟨Int.emod_nonneg _ (by omega),Int.emod_lt_of_pos _ (by omega)⟩,⟨Int.emod_nonneg _ (by omega),Int.emod_lt_of_pos _ (by omega)⟩⟩
theorem normR_data {c k:Int}{x:RP}:strB (normR c k x).data=fullB (strB x.data):=strB_list _
section
variable {a:AD}{N M:Nat}{W:Nat→Prop}{f:Nat→ByteArray}
end
section
variable {t:Nat→AD→AD}{ds:List Od}{i:Nat}
end
section
variable {s:RwS}{ds:List Od}{bu:List Int}{N M:Nat}{K:Nat→Nat}{W:Nat→Nat→Prop}{f:Nat→Nat→ByteArray}
end
end Go.Proofs.YtkknkmplmilihaaGreat
end
section
namespace Go.Proofs.YtkknkmplmilihaaGreat
open Go.Sh Go.RowKit Go.Maps
section
variable {p:Nat}{a:AD}{F:List Nat}{w0 w:World}{X:List A}{Φ:Ending→World→Prop}
end
section
variable {p:Nat}{a:AD}{F:List Nat}{w0 w:World}{X:List A}{Φ:Ending→World→Prop}
end
end Go.Proofs.YtkknkmplmilihaaGreat
end
section
namespace Go.Proofs.YtkknkmplmilihaaGreat
open Go.Sh Go.RowKit
theorem made_back {L:List Txt}{c:Nat}(hG:GoodL L 64) (hc:L.length=c):makeF (L.take (c-2))=L:=by
 have h4:=hG.n4
 have h1:=(app_ok (Lg:=L) (X:=L) (l:=[((L.length-2:Nat):Int),((L.length-1:Nat):Int)]) hG hc hc (by simp; omega) (fun x hx=>by simp only[List.mem_cons,List.not_mem_nil,or_false]at hx; omega) (fun i hi _=>rfl)).2 (by simp)
 rw[fill_pq h4]at h1
 rw[←hc]; exact h1
section
variable {s:RwS}{ds:List Od}{bu:List Int}{N M:Nat}{K:Nat→Nat}{f:Nat→Nat→ByteArray}{at_:Int}{l:List RP}{c:Nat}
theorem goodP_in (hG0:OkG s.c s.k s.r) (hat:0≤at_∧at_<s.r) (hc:s.c=(c:Int)) (hG:∀off,0≤off∧off<s.k→GoodL (rwT s f at_ off c) 64) (hl:∀x∈l,x.data.length=64):
  ∀y∈goodP s ds bu K f at_ l c,(0≤y.col∧y.col<s.c)∧(0≤y.off∧y.off<s.k)∧y.data.length=64:=fun y hy=>by
 have o1:=hG0.1
 obtain⟨o,ho,r,hr,_,_,rfl⟩:=(goodP_mem hc).1 hy
 have ho:=(offsC_mem.1 ho).1
 have hcn:=colR_nat hG0 hat (role:=(r:Int)) (by omega)
 refine⟨⟨by show 0≤colR s at_ r; omega,by show colR s at_ r<s.c; omega⟩,ho,?_⟩
 have hg:=rowF_good (l:=l) (off:=o) (hG o ho) hl
 exact hg.all r (by rw[rowF_len _ _ (by rw[rwT_len]; omega),rwT_len]; exact hr)
theorem stF_up (h:MdS s ds bu N M K f) (hat:0≤at_∧at_<s.r) (hc:s.c=(c:Int)) (hG:∀off,0≤off∧off<s.k→GoodL (rwT s f at_ off c) 64) (hl:∀x∈l,x.data.length=64):
  ∀i,i<ds.length→K i=0→∀j,stF s at_ l c f i j=upL s at_ (goodP s ds bu K f at_ l c) f i j:=fun i hi h0 j=>by
 have hok:=h.ok
 have hlen:=h.len
 obtain⟨o1,o2,o3,o4,o5,o6⟩:=hok
 have hmem:=fun y=>goodP_mem (s:=s) (ds:=ds) (bu:=bu) (K:=K) (f:=f) (at_:=at_) (l:=l) (c:=c) hc (y:=y)
 have hap:=goodP_apart (s:=s) (ds:=ds) (bu:=bu) (K:=K) (f:=f) (at_:=at_) (l:=l) (c:=c) h.ok hat hc
 have hin:=goodP_in (s:=s) (ds:=ds) (bu:=bu) (K:=K) (f:=f) (at_:=at_) (l:=l) (c:=c) h.ok hat hc hG hl
 generalize goodP s ds bu K f at_ l c=p at hmem hap hin
 obtain⟨r,hr,hri⟩:=colR_surj h.ok hat (g:=i) (by omega)
 have hcn:=colR_nat h.ok hat (role:=(r:Int)) (by omega)
 have hrole:roleG s.c s.k s.r at_ (i:Int)=(r:Int):=(role_colR h.ok hat (by omega) (by omega)).2 (by omega)
 obtain⟨pp,a,hk,hlv,ht⟩:=h.there hi h0
 unfold stF
 cases hf:(offsC s l).find? (fun o=>(sectorG s.c s.k s.r at_ o).toNat==j) with
 |none=>
  refine(upL_not p f fun x hx e=>?_).symm
  obtain⟨o,ho,_,_,_,_,rfl⟩:=(hmem x).1 hx
  exact List.find?_eq_none.1 hf o ho (by simpa using e.2)
 |some o=>
  have hoj:(sectorG s.c s.k s.r at_ o).toNat=j:=by have:=List.find?_some hf; simpa using this
  have hom:=List.mem_of_find?_eq_some hf
  have ho:=(offsC_mem.1 hom).1
  show strB ((rowF l o (rwT s f at_ o c)).getD (roleG s.c s.k s.r at_ i).toNat [])=_
  rw[hrole,Int.toNat_natCast]
  cases hw:wantB l o (c-2) (misL (lostK s bu K at_) c) r with
  |true=>
   have hy:(⟨colR s at_ r,o,(rowF l o (rwT s f at_ o c)).getD r []⟩:RP)∈p:=(hmem _).2 ⟨o,hom,r,by omega,hw,by rw[hri,ht]; rfl,rfl⟩
   have hpw:p.Pairwise (fun x y=>¬(x.col.toNat=y.col.toNat∧(sectorG s.c s.k s.r at_ x.off).toNat=(sectorG s.c s.k s.r at_ y.off).toNat)):=by
    refine List.Pairwise.imp_of_mem ?_ hap
    intro x y hx hy' hxy e
    have q1:=hin x hx
    have q2:=hin y hy'
    exact hxy ⟨by have:=e.1; omega,(sec_nat h.ok hat hat q1.2.1 q2.2.1 e.2).2⟩
   have:=upL_hit p f hpw _ hy
   simp only[hri,hoj]at this
   exact this.symm
  |false=>
   rw[rowF_not (L:=rwT s f at_ o c) (lost:=misL (lostK s bu K at_) c) (by rw[rwT_len]; exact hw),rwT_str _ _ _ _ (by omega),hri,hoj]
   refine(upL_not p f fun x hx e=>?_).symm
   obtain⟨o',ho',r',hr',hw',_,rfl⟩:=(hmem x).1 hx
   have q:=sec_nat h.ok hat hat (offsC_mem.1 ho').1 ho (by have:=e.2; rw[hoj]; exact this)
   have q2:=colR_nat h.ok hat (role:=(r':Int)) (by omega)
   have q3:colR s at_ r'=colR s at_ r:=by have q0:(colR s at_ r').toNat=i:=e.1; omega
   have q4:=colR_inj h.ok hat (a:=(r':Int)) (b:=(r:Int)) (by omega) (by omega) q3
   have q5:r'=r:=by omega
   rw[q.2,q5,hw]at hw'
   cases hw'
structure GoodA (s:RwS) (ds:List Od) (bu:List Int) (N M:Nat) (K:Nat→Nat) (f:Nat→Nat→ByteArray) (at_:Int) (l:List RP) (c:Nat):Prop where
 md:MdS s ds bu N M K f
 mh:MdH ds N K f
 k2:∀i,i<ds.length→K i≠2
 at':0≤at_∧at_<s.r
 c':s.c=(c:Int)
 good:∀off,0≤off∧off<s.k→GoodL (rwT s f at_ off c) 64
 few:(misL (lostK s bu K at_) c).length≤2
 ch:∀x∈l,(0≤x.col∧x.col<s.c-2)∧(0≤x.off∧x.off<s.k)∧x.data.length=64
 nd:(l.map fun x=>(x.off,x.col)).Nodup
theorem GoodA.ap (h:GoodA s ds bu N M K f at_ l c):
  partsF s ds bu at_ l=.ok (goodP s ds bu K f at_ l c)∧(goodP s ds bu K f at_ l c).length≤40∧(goodP s ds bu K f at_ l c≠[]→PlacedR at_ (goodP s ds bu K f at_ l c)∧LoadedR (goodP s ds bu K f at_ l c))∧
   (putF s ds bu at_ (goodP s ds bu K f at_ l c)).1=0∧MdS s (putF s ds bu at_ (goodP s ds bu K f at_ l c)).2 bu N (M+40) K (stF s at_ l c f)∧MdH (putF s ds bu at_ (goodP s ds bu K f at_ l c)).2 N K (stF s at_ l c f)∧(putF s ds bu at_ (goodP s ds bu K f at_ l c)).2.length=ds.length:=apply_mds h.md h.k2 h.at' h.c' h.good h.few h.ch h.nd
theorem GoodA.same (h:GoodA s ds bu N M K f at_ l c) (hp:goodP s ds bu K f at_ l c=[]):MdS s ds bu N (M+40) K (stF s at_ l c f)∧MdH ds N K (stF s at_ l c f):=by
 have hv:=stF_up (bu:=bu) h.md h.at' h.c' h.good fun x hx=>(h.ch x hx).2.2
 rw[hp]at hv
 exact⟨(h.md.mono (by omega)).congr (fun _ _=>rfl) fun i hi h0 j _=>hv i hi h0 j,h.mh.congr fun i hi h0 j _=>hv i hi h0 j⟩
theorem GoodA.row (h:GoodA s ds bu N M K f at_ l c){off:Int}(ho:0≤off∧off<s.k):rwT s (stF s at_ l c f) at_ off c=rowF l off (rwT s f at_ off c)∧GoodL (rwT s (stF s at_ l c f) at_ off c) 64:=by
 have o1:=h.md.ok.1
 have hc:=h.c'
 have hrow:=stF_row (f:=f) (l:=l) h.md.ok h.at' h.c' ho
 have hg:=rowF_good (l:=l) (off:=off) (h.good off ho) fun x hx=>(h.ch x hx).2.2
 have e:rwT s (stF s at_ l c f) at_ off c=rowF l off (rwT s f at_ off c):=by
  rw[hrow]
  split
  ·rfl
  ·rename_i hn
   have hno:∀x∈l,x.off≠off:=fun x hx e=>hn (offsC_mem.2 ⟨ho,x,hx,e⟩)
   have hL:(rwT s f at_ off c).length=c:=rwT_len ..
   have hch:chgL l off (rwT s f at_ off c) (c-2)=(rwT s f at_ off c).take (c-2):=by
    refine txt_ext (by rw[chgL_len,List.length_take,hL]; omega) fun i hi=>?_
    rw[chgL_len]at hi
    rw[chgL_get hi]
    have:l.find? (fun x=>x.off==off&&x.col==(i:Int))=none:=by
     rw[List.find?_eq_none]
     intro x hx hh
     rw[Bool.and_eq_true]at hh
     exact hno x hx (by simpa using hh.1)
    rw[this]
    show _=_
    rw[List.getD_eq_getElem?_getD,List.getD_eq_getElem?_getD,List.getElem?_take,if_pos hi]
   have hgd:=h.good off ho
   unfold rowF
   rw[hL,hch]
   exact(made_back hgd hL).symm
 exact⟨e,by rw[e]; exact hg⟩
theorem GoodA.apS (h:GoodA s ds bu N M K f at_ l c){a:AD}{NN S t:Nat}{recs:List (Int×List RP)}(hR:RAt a NN S t recs) (hlt:recs.length<S):
  (Go.Proofs.YtkknkmplmilihaaGreat.apS s ds bu a S t (t+1+recs.length) at_ l).1=0∧MdS s (Go.Proofs.YtkknkmplmilihaaGreat.apS s ds bu a S t (t+1+recs.length) at_ l).2.1 bu N (M+40) K (stF s at_ l c f)∧MdH (Go.Proofs.YtkknkmplmilihaaGreat.apS s ds bu a S t (t+1+recs.length) at_ l).2.1 N K (stF s at_ l c f)∧(Go.Proofs.YtkknkmplmilihaaGreat.apS s ds bu a S t (t+1+recs.length) at_ l).2.1.length=ds.length∧
   ∃recs',recs'=(if goodP s ds bu K f at_ l c=[] then recs else recs++[(at_,goodP s ds bu K f at_ l c)])∧RAt (Go.Proofs.YtkknkmplmilihaaGreat.apS s ds bu a S t (t+1+recs.length) at_ l).2.2.1 NN S t recs'∧(Go.Proofs.YtkknkmplmilihaaGreat.apS s ds bu a S t (t+1+recs.length) at_ l).2.2.2=t+1+recs'.length:=by
 obtain⟨q1,q2,q3,q4,q5,q6,q7⟩:=h.ap
 unfold Go.Proofs.YtkknkmplmilihaaGreat.apS
 rw[q1]
 dsimp only
 by_cases hp:goodP s ds bu K f at_ l c=[]
 ·obtain⟨g1,g2⟩:=h.same hp
  rw[if_pos hp]
  exact⟨rfl,g1,g2,rfl,recs,by rw[if_pos hp],hR,rfl⟩
 ·obtain⟨hP,hL⟩:=q3 hp
  obtain⟨g1,g2⟩:=hR.app hlt hP hL
  have hle:=hR.le
  have hleft:¬leftF S t (t+1+recs.length)<1:=by rw[left_at hR]; omega
  have e:apF a S t (t+1+recs.length) at_ (goodP s ds bu K f at_ l c)=((runS a (appOps S (t+1+recs.length) at_ (goodP s ds bu K f at_ l c))).1,t+1+recs.length+1,((t+1+recs.length:Nat):Int),0):=by
   unfold apF
   rw[if_neg hleft,if_pos ⟨hP,hL⟩,g1,if_pos rfl,if_pos rfl,Nat.mod_eq_of_lt (by omega)]
  rw[if_neg hp,e]
  rw[if_neg fun hh=>hh rfl]
  refine⟨q4,q5,q6,q7,_,by rw[if_neg hp],g2,?_⟩
  rw[List.length_append]; rfl
theorem GoodA.apN (h:GoodA s ds bu N M K f at_ l c):
  (Go.Proofs.YtkknkmplmilihaaGreat.apN s ds bu at_ l).1=0∧MdS s (Go.Proofs.YtkknkmplmilihaaGreat.apN s ds bu at_ l).2 bu N (M+40) K (stF s at_ l c f)∧MdH (Go.Proofs.YtkknkmplmilihaaGreat.apN s ds bu at_ l).2 N K (stF s at_ l c f)∧(Go.Proofs.YtkknkmplmilihaaGreat.apN s ds bu at_ l).2.length=ds.length:=by
 obtain⟨q1,q2,q3,q4,q5,q6,q7⟩:=h.ap
 unfold Go.Proofs.YtkknkmplmilihaaGreat.apN
 rw[q1]
 dsimp only
 by_cases hp:goodP s ds bu K f at_ l c=[]
 ·obtain⟨g1,g2⟩:=h.same hp
  rw[if_pos hp]
  exact⟨rfl,g1,g2,rfl⟩
 ·rw[if_neg hp]
  exact⟨q4,q5,q6,q7⟩
theorem MdS.fresh (h:MdS s ds bu N M K f) (hh:MdH ds N K f) (hK:∀i,i<ds.length→K i≠2) (M':Nat):MdS s ds bu N M' K f:=⟨h.ok,h.len,h.bl,h.size,fun i hi=>by
 rcases h.co i hi with⟨k0,_⟩|h1|⟨k2,_⟩
 ·obtain⟨p,a,hk,ha⟩:=hh i hi k0
  exact .inl ⟨k0,p,a,hk,ha.live M'⟩
 ·exact .inr (.inl h1)
 ·exact absurd k2 (hK i hi)⟩
theorem good_read (h:MdS s ds bu N M K f) (hK:∀i,i<ds.length→K i≠2) (hat:0≤at_∧at_<s.r) (hc:s.c=(c:Int)){off:Int}(ho:0≤off∧off<s.k) (hG:GoodL (rwT s f at_ off c) 64) (h2:(misL (lostK s bu K at_) c).length≤2):
  filR s ds bu at_ off=.ok (rwT s f at_ off c,misL (lostK s bu K at_) c)∧∀i:Nat,(i:Int)<s.c-2→sectR s ds bu at_ off i=(strB ((rwT s f at_ off c).getD i []),0):=by
 have hlen:=h.len
 have hf:filR s ds bu at_ off=.ok (rwT s f at_ off c,misL (lostK s bu K at_) c):=by
  rw[filR_of h.may hat ho hc (rwT_len ..) hG _ (h.secs hat ho hc fun i hi e=>absurd e (hK i (by omega))),if_pos h2]
 refine⟨hf,fun i hi=>?_⟩
 obtain⟨h0,_⟩:=readR_of h.may hat ho hc _ (h.secs hat ho hc fun i hi e=>absurd e (hK i (by omega)))
 have hs:=h.secs hat ho hc (fun i hi e=>absurd e (hK i (by omega))) i (by omega)
 unfold sectR
 rw[if_neg (by omega),if_neg (by omega),hs]
 cases hb:lostK s bu K at_ i with
 |true=>
  rw[if_pos rfl]
  show(if (41:Int)≠41 then _ else _)=_
  rw[if_neg (by decide),hf]
  rfl
 |false=>
  rw[if_neg Bool.false_ne_true]
  show(if (0:Int)≠41 then _ else _)=_
  rw[if_pos (by decide)]
end
theorem BegW.md {c k r:Int}{N:Nat}{s sr:RwS}{ds rs:List Od}{A:AD}(h:BegW c k r N s sr ds rs A) (hG:OkG c k r) (hN:(N:Int)=4+r*k):
  MdS s ds (List.replicate c.toNat r) N 0 (fun _=>0) (fun _ _=>zeroSec)∧MdH ds N (fun _=>0) (fun _ _=>zeroSec)∧ds.length=c.toNat:=by
 have h1:=SetHold.new h.ds
 have hl:ds.length=c.toNat:=by have:=congrArg List.length h.ds; simpa[ads] using this
 obtain⟨g1,g2,g3⟩:=h.g
 have hlb:(List.replicate c.toNat r).length=c.toNat:=List.length_replicate
 have hc:=hG.1
 refine⟨⟨by rw[g1,g2,g3]; exact hG,by rw[hl,g1]; omega,by rw[hlb,g1]; omega,by rw[g2,g3]; exact hN,fun i hi=>?_⟩,fun i hi _=>h1 i hi,hl⟩
 obtain⟨p,a,hk,ha⟩:=h1 i hi
 exact .inl ⟨rfl,p,a,hk,ha.live 0⟩
abbrev jO (jb:Bool) (r:Nat):Option Addr:=if jb then some ⟨r,0,none⟩ else none
theorem setup17 {a b d:Int}(ha:0≤a∧a≤255) (hb:0≤b∧b≤255) (hd:0≤d∧d≤255) (jb:Bool){w w1:World}(hx:Ext w w1){K:Nat→Nat→World→Prop}{Kf:World→Prop}
  (hK:∀(gc gk gr:Int) (N:Nat) (s sr:RwS) (ds rs:List Od) (q u rj rk:Nat) (A:AD) (k1 k2:Nat) (w':World),gc=4+a%4→gk=1+b%3→gr=1+d%6→(N:Int)=4+gr*gk→1≤gr*gk→BegW gc gk gr N s sr ds rs A→
   Ow (bK s sr ds rs (List.replicate gc.toNat gr) q u A A) [] w w' [blk k2 (pC s sr gc.toNat q u (jO jb rj) (jO jb rk)) 40,blk k1 #[.int .i64 gc,.int .i64 gk,.int .i64 gr] 26,blk rj (rgC q 3 0 1) 128,blk rk (krC u 0 1) 167]→K k1 k2 w'):
 Calls Tp 12 #[.int .u8 a,.int .u8 b,.int .u8 d] w1 fun e_4 v5=>∃n30_0:Int,∃n30_1:Int,∃n30_2:Int,e_4=.returned (.agg #[.int .i64 n30_0,.int .i64 n30_1,.int .i64 n30_2])∧
 Alloc #[.int .i64 0,.int .i64 0,.int .i64 0] 26 v5 fun k9 v6=>
 St ⟨k9,0,none⟩ (.int .i64 n30_0) v6 fun v7=>
 St ⟨k9,1,none⟩ (.int .i64 n30_1) v7 fun v8=>
 St ⟨k9,2,none⟩ (.int .i64 n30_2) v8 fun v9=>
 ∃n32_0:Int,∃n32_1:Int,∃n32_2:Int,(v9.cell? ⟨k9,0,none⟩=some (.int .i64 n32_0)∧v9.cell? ⟨k9,1,none⟩=some (.int .i64 n32_1)∧v9.cell? ⟨k9,2,none⟩=some (.int .i64 n32_2))∧
 Calls Tp 13 #[.agg #[.int .i64 n32_0,.int .i64 n32_1,.int .i64 n32_2],.bool jb] v9 fun e_5 v10=>∃n33_0_0:Int,∃n33_0_1:Int,∃n33_0_2:Int,∃(p33_0_3:Option Addr) (l33_0_3 c33_0_3:Nat),∃(p33_0_4:Option Addr) (l33_0_4 c33_0_4:Nat),∃n33_0_5:Int,∃n33_0_6:Int,∃n33_0_7:Int,∃(p33_0_8:Option Addr) (l33_0_8 c33_0_8:Nat),∃(p33_0_9:Option Addr) (l33_0_9 c33_0_9:Nat),∃p33_0_10:Option Addr,∃p33_0_11:Option Addr,∃p33_0_12:Option Addr,∃p33_0_13:Option Addr,∃b33_1:Bool,e_5=.returned (.tuple #[.agg #[.int .i64 n33_0_0,.int .i64 n33_0_1,.int .i64 n33_0_2,.slice p33_0_3 l33_0_3 c33_0_3,.slice p33_0_4 l33_0_4 c33_0_4,.int .i64 n33_0_5,.int .i64 n33_0_6,.int .i64 n33_0_7,.slice p33_0_8 l33_0_8 c33_0_8,.slice p33_0_9 l33_0_9 c33_0_9,.pointer p33_0_10,.pointer p33_0_11,.pointer p33_0_12,.pointer p33_0_13],.bool b33_1])∧
 Alloc #[.int .i64 0,.int .i64 0,.int .i64 0,.slice none 0 0,.slice none 0 0,.int .i64 0,.int .i64 0,.int .i64 0,.slice none 0 0,.slice none 0 0,.pointer none,.pointer none,.pointer none,.pointer none] 40 v10 fun k10 v11=>
 St ⟨k10,0,none⟩ (.int .i64 n33_0_0) v11 fun v12=>
 St ⟨k10,1,none⟩ (.int .i64 n33_0_1) v12 fun v13=>
 St ⟨k10,2,none⟩ (.int .i64 n33_0_2) v13 fun v14=>
 St ⟨k10,3,none⟩ (.slice p33_0_3 l33_0_3 c33_0_3) v14 fun v15=>
 St ⟨k10,4,none⟩ (.slice p33_0_4 l33_0_4 c33_0_4) v15 fun v16=>
 St ⟨k10,5,none⟩ (.int .i64 n33_0_5) v16 fun v17=>
 St ⟨k10,6,none⟩ (.int .i64 n33_0_6) v17 fun v18=>
 St ⟨k10,7,none⟩ (.int .i64 n33_0_7) v18 fun v19=>
 St ⟨k10,8,none⟩ (.slice p33_0_8 l33_0_8 c33_0_8) v19 fun v20=>
 St ⟨k10,9,none⟩ (.slice p33_0_9 l33_0_9 c33_0_9) v20 fun v21=>
 St ⟨k10,10,none⟩ (.pointer p33_0_10) v21 fun v22=>
 St ⟨k10,11,none⟩ (.pointer p33_0_11) v22 fun v23=>
 St ⟨k10,12,none⟩ (.pointer p33_0_12) v23 fun v24=>
 St ⟨k10,13,none⟩ (.pointer p33_0_13) v24 fun v25=>
 ((!b33_1)=true→
 Kf v25)∧
 ((!b33_1)=false→K k9 k10 v25):=by
 have gb:(4≤4+a%4∧4+a%4≤7)∧(1≤1+b%3∧1+b%3≤3)∧(1≤1+d%6∧1+d%6≤6):=by omega
 have hrk:1≤(1+d%6)*(1+b%3):=by
  have:=Int.mul_le_mul (a:=1) (b:=1) (c:=1+d%6) (d:=1+b%3) (by omega) (by omega) (by omega) (by omega); omega
 refine(geo17_spec ha hb hd w1).mono fun e v5 ⟨he5,hx5⟩=>⟨_,_,_,he5,?_⟩
 refine Alloc.t ((T.nil w).quiet (hx.trans hx5)) fun k1 v6 h6=>St.t h6 .head (by simp) rfl rfl fun v7 h7=>St.t h7 .head (by simp) rfl rfl fun v8 h8=>St.t h8 .head (by simp) rfl rfl fun v9 h9=>?_
 have h9:T [] w v9 [blk k1 #[.int .i64 (4+a%4),.int .i64 (1+b%3),.int .i64 (1+d%6)] 26]:=h9
 refine⟨_,_,_,⟨h9.ld (b:=k1) (by repeat constructor) rfl,h9.ld (b:=k1) (by repeat constructor) rfl,h9.ld (b:=k1) (by repeat constructor) rfl⟩,?_⟩
 refine(begin17_spec (c:=4+a%4) (k:=1+b%3) (r:=1+d%6) (by omega) (by omega) (by omega) jb v9).mono fun e v10 ⟨s,sr,ds,rs,q,u,rj,rk,A,hB,he10,H10⟩=>⟨_,_,_,_,_,_,_,_,_,_,_,_,_,_,_,_,_,_,_,_,_,_,_,he10,?_⟩
 refine(Ow.over H10 h9).alloc fun k2 v11 H11=>?_
 refine Ow.st14 H11 rfl rfl rfl rfl rfl rfl rfl rfl rfl rfl rfl rfl rfl rfl fun v12 H12=>no rfl ?_
 refine hK _ _ _ (4+(1+d%6)*(1+b%3)).toNat s sr ds rs q u rj rk A k1 k2 v12 rfl rfl rfl (by omega) hrk hB (H12.perm ?_)
 classical
 refine List.perm_iff_count.2 fun x=>?_
 simp only[List.count_append,List.count_cons,List.count_nil,Nat.zero_add,Nat.add_zero]
theorem blk_parts {F:List Nat}{w0 w:World}{Γ:List A}{b:Nat}{t:TypeId}{x:RP}(h:T F w0 w Γ) (hm:blk b (rpC x) t∈Γ):partsAt w (some ⟨b,0,none⟩) [x]:=by
 refine⟨fun _=>⟨_,rfl⟩,fun a ha j y hj m v hv=>?_⟩
 cases ha
 cases j with
 |succ j=>simp at hj
 |zero=>
  obtain rfl:x=y:=by simpa using hj
  rw[addr_add,addr_add]
  simp only[Nat.zero_mul,Nat.zero_add]
  exact h.ld hm hv
theorem misL_zero {s:RwS}{bu:List Int}{K:Nat→Nat}{row:Int}{c:Nat}(hG:OkG s.c s.k s.r) (hr:0≤row∧row<s.r) (hc:s.c=(c:Int)) (hK:∀i,i<c→K i≠1) (hb:∀i,i<c→row<bu.getD i 0):misL (lostK s bu K row) c=[]:=
 misL_nil fun i hi=>by
  have:=(colR_nat hG hr (role:=(i:Int)) (by omega)).2
  exact lostK_no (hK _ (by omega)) (hb _ (by omega))
theorem zero_row (s:RwS) (row off:Int){c:Nat}(h4:4≤c) (h10:c≤10):GoodL (rwT s (fun _ _=>zeroSec) row off c) 64:=by
 rw[rwT_zero]; exact zero_good h4 h10
theorem shown17_spec (w:World):Ret Tp 11 #[] w (.bool true):=by
 refine ret_of (revetmentlaw17_shown_calls ?_)
 unfold revetmentlaw17_shown
 refine(geo17_spec (a:=0) (b:=0) (d:=1) (by omega) (by omega) (by omega) w).mono fun e w1 ⟨he1,hx1⟩=>⟨_,_,_,he1,?_⟩
 refine(begin17_spec (c:=4) (k:=1) (r:=2) (by omega) (by omega) (by omega) true w1).mono fun e w2 ⟨s,sr,ds,rs,q,u,rj,rk,aj,hB,he2,H2⟩=>⟨_,_,_,_,_,_,_,_,_,_,_,_,_,_,_,_,_,_,_,_,_,_,_,he2,?_⟩
 obtain⟨gc,gk,gr⟩:=hB.g
 obtain⟨hM,hH,hl⟩:=hB.md (by unfold OkG; omega) (by decide)
 try dsimp only
 rw[show Int.toNat 4=4 from rfl]at hM hl H2
 have H2:Ow (star (seK s ds (List.replicate 4 2)) (drK q aj)) [] w w2 ([blk rj (rgC q 3 0 1) 128,blk rk (krC u 0 1) 167]++[]):=Ow.over H2.fst ((T.nil w).quiet hx1)
 refine H2.alloc fun k1 w3 H3=>Ow.st14 H3 rfl rfl rfl rfl rfl rfl rfl rfl rfl rfl rfl rfl rfl rfl fun w4 H4=>no rfl ?_
 have H4:Ow (star (seK s ds (List.replicate 4 2)) (drK q aj)) [] w w4 (blk rj (rgC q 3 0 1) 128::[blk k1 (pC s sr 4 q u (some ⟨rj,0,none⟩) (some ⟨rk,0,none⟩)) 40]):=Ow.leave (Z:=[blk rk (krC u 0 1) 167]) (H4.perm (.swap _ _ _))
 have c1:∀{h:Kd} {w':World} {X:List A},Ow h [] w w' X→blk k1 (pC s sr 4 q u (some ⟨rj,0,none⟩) (some ⟨rk,0,none⟩)) 40∈X→∀i v,(pC s sr 4 q u (some ⟨rj,0,none⟩) (some ⟨rk,0,none⟩))[i]?=some v→w'.cell? ⟨k1,i,none⟩=some v:=fun h' hm i v hv=>h'.ld hm hv
 refine⟨fun w'=>∃(h:Kd) (X:List A),Ow h [] w w' X∧blk k1 (pC s sr 4 q u (some ⟨rj,0,none⟩) (some ⟨rk,0,none⟩)) 40∈X,⟨_,_,H4.drew,(by repeat constructor)⟩,_,_,_,_,_,_,_,_,_,fun w' ⟨h,X,h',hm⟩=>⟨c1 h' hm 0 _ rfl,c1 h' hm 1 _ rfl,c1 h' hm 2 _ rfl,c1 h' hm 3 _ rfl,c1 h' hm 4 _ rfl⟩,_,fun w' ⟨h,X,h',hm⟩=>c1 h' hm 12 _ rfl,?_⟩
 refine(full17_spec _ (by decide) _).mono fun e w5 ⟨he5,hx5⟩=>⟨_,he5,⟨_,_,H4.drew.quiet hx5,(by repeat constructor)⟩,?_⟩
 refine(H4.drew.quiet hx5).alloc fun k2 w6 H6=>⟨⟨_,_,H6,(by repeat constructor)⟩,?_⟩
 generalize hy:(⟨1,0,(fullB (ByteArray.mk #[97])).data.toList⟩:RP)=y
 have H6:Ow (star (seK s ds (List.replicate 4 2)) (drK q aj)) [] w w6 (blk k2 (rpC y) 47::blk rj (rgC q 3 0 1) 128::[blk k1 (pC s sr 4 q u (some ⟨rj,0,none⟩) (some ⟨rk,0,none⟩)) 40]):=by rw[←hy]; exact H6
 have H6:=H6.perm (.swap _ _ _)
 have hok:=hM.ok
 have hK1:∀i,i<4→(fun _:Nat=>0) i≠1:=fun i _=>Nat.zero_ne_one
 have hbB:∀i,i<4→(0:Int)<(List.replicate 4 (2:Int)).getD i 0:=fun i hi=>by rw[repl_getD hi]; decide
 have hmis:=misL_zero (bu:=List.replicate 4 2) hok (row:=0) (by omega) (c:=4) (by omega) hK1 hbB
 have hgA:GoodA s ds (List.replicate 4 2) 6 0 (fun _=>0) (fun _ _=>zeroSec) 0 [y] 4:=by
  refine⟨hM,hH,fun i _=>(show(0:Nat)≠2 by decide),by omega,by omega,fun off ho=>zero_row s 0 off (by omega) (by omega),by rw[hmis]; decide,fun x hx=>?_,by simp⟩
  rw[List.mem_singleton.1 hx,←hy]
  refine⟨?_,?_,full_len _⟩
  ·show 0≤(1:Int)∧(1:Int)<s.c-2; omega
  ·show 0≤(0:Int)∧(0:Int)<s.k; omega
 obtain⟨p1,p2,p3,p4,recs',p5,p6,p7⟩:=hgA.apS hB.ring (by decide)
 have hA:=applyS_spec (at_:=0) (l:=[y]) (m:=1) (c:=1) (p:=some ⟨k2,0,none⟩) (M:=0) (N:=0) H6 rfl (fun w' h'=>blk_parts h' (b:=k2) (t:=47) (by repeat constructor)) (by omega) (by simp) hM.few (by omega) (hB.ring.few 0) (by omega) (by decide) (by decide) (by decide)
 have e01:(0+1+([]:List (Int×List RP)).length)=1:=rfl
 rw[e01]at p1 p2 p3 p4 p6 p7
 rw[p1,hl,List.length_replicate]at hA
 refine hA.mono fun e w7 ⟨he7,H7⟩=>⟨_,he7,⟨_,_,H7,(by repeat constructor)⟩,?_⟩
 clear hA
 generalize apS s ds (List.replicate 4 2) aj 3 0 1 0 [y]=z at p2 p3 p4 H7
 refine⟨_,_,_,_,_,_,_,_,_,⟨c1 H7 (by repeat constructor) 0 _ rfl,c1 H7 (by repeat constructor) 1 _ rfl,c1 H7 (by repeat constructor) 2 _ rfl,c1 H7 (by repeat constructor) 3 _ rfl,c1 H7 (by repeat constructor) 4 _ rfl⟩,?_⟩
 have hrw:=hgA.row (off:=0) (by omega)
 obtain⟨-,hsec⟩:=good_read p2 (fun i _=>(show(0:Nat)≠2 by decide)) (by omega) (by omega) (off:=0) (by omega) hrw.2 (by rw[hmis]; decide)
 have hrd:=set16_spec (se_w H7.fst) (by omega) (p2.few.mono (by omega)) 0 0 1
 have hs1:sectR s z.2.1 (List.replicate 4 2) 0 0 1=_:=hsec 1 (by omega)
 rw[hs1,p4,hl,List.length_replicate]at hrd
 refine hrd.mono fun e w8 ⟨he8,hx8⟩=>⟨_,_,he8,yes rfl (yes rfl ?_)⟩
 have hval:strB ((rwT s (stF s 0 [y] 4 (fun _ _=>zeroSec)) 0 0 4).getD 1 [])=fullB (ByteArray.mk #[97]):=by
  rw[hrw.1]
  unfold rowF
  rw[makeF_get,chgL_len,rwT_len,if_pos (by decide),chgL_get (by decide)]
  have:[y].find? (fun x=>x.off==0&&x.col==((1:Nat):Int))=some y:=by rw[←hy]; rfl
  rw[this,←hy]
 refine(full17_spec _ (by decide) _).mono fun e w9 ⟨he9,hx9⟩=>⟨_,he9,?_,(H7.quiet (hx8.trans hx9)).ext⟩
 rw[hval]
 exact congrArg Value.bool (same_str _)
theorem shown17_end {w w1:World}(hx:Ext w w1):Calls Tp 11 #[] w1 fun e w2=>∃b:Bool,e=.returned (.bool b)∧RetR w (.bool true) (.bool b) w2:=
 (shown17_spec w1).mono fun e w2 ⟨he,hx2⟩=>⟨true,he,rfl,hx.trans hx2⟩
theorem T.partsT {F:List Nat}{w0 w:World}{Γ:List A}{t:TypeId}{g:Option Nat}{n cap:Nat}{l:List RP}(hT:T F w0 w Γ) (hm:rowP t 3 g n cap (rpL l)∈Γ):partsAt w (ptr g) l:=by
 have hh:=hT.says hm
 have hn:l.length=n:=by have:=rowP.len hh; rw[rpL_len]at this; omega
 refine⟨fun hne=>?_,fun a ha j x hj m v hv=>?_⟩
 ·have:0<l.length:=List.length_pos_iff.2 hne
  obtain⟨b,rfl⟩:=rowP.pos hh (by omega)
  exact⟨_,rfl⟩
 ·cases g with
  |none=>cases ha
  |some b=>
   cases ha
   rw[addr_add,addr_add,Nat.zero_add]
   exact rowP.cell hh (rpL_get hj hv)
section
variable {s:RwS}{ds:List Od}{bu:List Int}{F:List Nat}{w0 w:World}{X:List A}{g:Kd}
theorem se_noneS {i:Nat}{K:World→Prop}{ad:Addr}(H:Ow (star (seK s ds bu) g) F w0 w X) (hp:s.pd=some ad) (hi:i<ds.length) (hK:∀w',Ow (star (seK s (ds.set i none) bu) g) F w0 w' X→K w'):St (ad.add (i*1)) (.pointer none) w K:=by
 obtain⟨Z,hZ,h1,hb⟩:=Ow.lend H
 exact se_none h1 hp hi fun w' h'=>hK w' (hb h')
theorem se_buS {i:Nat}{x:Int}{K:World→Prop}{ad:Addr}(H:Ow (star (seK s ds bu) g) F w0 w X) (hp:s.pb=some ad) (hi:i<bu.length) (hK:∀w',Ow (star (seK s ds (bu.set i x)) g) F w0 w' X→K w'):St (ad.add (i*1)) (.int .i64 x) w K:=by
 obtain⟨Z,hZ,h1,hb⟩:=Ow.lend H
 exact se_bu h1 hp hi fun w' h'=>hK w' (hb h')
theorem se_pd (H:Ow (star (seK s ds bu) g) F w0 w X):∃g1 g2:Nat,s.pd=some ⟨g1,0,none⟩∧s.pb=some ⟨g2,0,none⟩:=by
 obtain⟨g1,g2,h1,h2,_⟩:=se_open H.fst
 exact⟨g1,g2,h1,h2⟩
end
theorem MdS.nil {s:RwS}{ds:List Od}{bu:List Int}{N M:Nat}{K:Nat→Nat}{f:Nat→Nat→ByteArray}(h:MdS s ds bu N M K f) (hh:MdH ds N K f){i:Nat}(hi:i<ds.length):MdS s (ds.set i none) bu N M (fun j=>if j=i then 1 else K j) f∧MdH (ds.set i none) N (fun j=>if j=i then 1 else K j) f:=by
 have h1:=h.put hi (y:=none) (k:=1) (g:=f i) (.inr (.inl ⟨rfl,rfl⟩))
 have hf:(fun j=>if j=i then f i else f j)=f:=by
  funext j
  split
  ·rename_i e; rw[e]
  ·rfl
 rw[hf]at h1
 refine⟨h1,fun j hj k0=>?_⟩
 rw[List.length_set]at hj
 by_cases e:j=i
 ·have k0:(if j=i then 1 else K j)=0:=k0
  rw[if_pos e]at k0; omega
 ·have k0:(if j=i then 1 else K j)=0:=k0
  rw[if_neg e]at k0
  rw[List.getElem?_set,if_neg fun e2=>e e2.symm]
  exact hh j hj k0
theorem tm17 {x n:Int}(hx:0≤x∧x≤255) (hn:1≤n):∃i:Nat,Int.tmod (IntKind.i64.wrap x) n=(i:Int)∧(i:Int)<n:=by
 rw[wrap64 x (by omega) (by omega),Int.tmod_eq_emod_of_nonneg hx.1]
 have:=Int.emod_nonneg x (b:=n) (by omega)
 have:=Int.emod_lt_of_pos x (b:=n) (by omega)
 exact⟨(x%n).toNat,by omega,by omega⟩
abbrev geoA (k:Nat) (c t r:Int):A:=blk k #[.int .i64 c,.int .i64 t,.int .i64 r] 26
section
variable {s:RwS}{ds:List Od}{bu:List Int}{N:Nat}{K:Nat→Nat}{f:Nat→Nat→ByteArray}{at_:Int}{l:List RP}{c q rj t cap m:Nat}{a:AD}{recs:List (Int×List RP)}{F:List Nat}{w0 w:World}{X:List A}{p:Option Addr}{Φ:Ending→World→Prop}
theorem apply_u (H:Ow (star (seK s ds bu) (drK q a)) F w0 w (blk rj (rgC q 3 t (t+1+recs.length)) 128::X)) (hA:GoodA s ds bu N 0 K f at_ l c) (hl:ds.length=c) (hb:bu.length=c) (hR:RAt a 127 3 t recs) (hlt:recs.length<3) (hm:m=l.length) (hl1:l.length≤1000) (hp:∀w',T F w0 w' X→partsAt w' p l)
  (hk:∀d' a' recs' w',MdS s d' bu N 0 K (stF s at_ l c f)→MdH d' N K (stF s at_ l c f)→d'.length=c→recs'=(if goodP s ds bu K f at_ l c=[] then recs else recs++[(at_,goodP s ds bu K f at_ l c)])→RAt a' 127 3 t recs'→Ow (star (seK s d' bu) (drK q a')) F w0 w' (blk rj (rgC q 3 t (t+1+recs'.length)) 128::X)→Φ (.returned (.int .i64 0)) w'):
  Calls Tp 16 #[.agg (rwC s c c),.pointer (some ⟨rj,0,none⟩),.int .i64 at_,.slice p m cap] w Φ:=by
 have hle:=hR.le
 have hok:=hA.md.ok
 have hlen:=hA.md.len
 have h10:=hok.2.1
 have hS:=applyS_spec (at_:=at_) (l:=l) (m:=m) (c:=cap) (p:=p) (M:=0) (N:=0) H hm hp (by omega) (by omega) hA.md.few (by omega) (hR.few 0) (by omega) (by decide) (by decide) (by omega)
 rw[hl,hb]at hS
 refine hS.mono fun e w1 ⟨he,h1⟩=>?_
 obtain⟨p1,p2,p3,p4,recs',p5,p6,p7⟩:=hA.apS hR hlt
 try dsimp only
 rw[he,p1]
 rw[p7]at h1
 refine hk _ _ recs' w1 (p2.fresh p3 (fun i hi=>hA.k2 i (by omega)) 0) p3 (by rw[p4,hl]) p5 p6 h1
end
end Go.Proofs.YtkknkmplmilihaaGreat
end
