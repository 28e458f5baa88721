import Derived.Test.YtkknkmplmilihaaGreatD8
import Derived.Test.YtkknkmplmilihaaGreatD10
set_option linter.unusedSimpArgs false
set_option linter.unusedVariables false
set_option maxHeartbeats 1000000
set_option maxRecDepth 20000
section
namespace Go.Proofs.YtkknkmplmilihaaGreat
open Go.Sh Go.RowKit
theorem Turn.mid {x y:A}{Γ Γ':List A}(h:Turn x y Γ Γ') (z:A):∃Γ'',Turn x z Γ Γ''∧Turn z y Γ'' Γ':=by
 induction h with
 |head=>exact⟨_,.head,.head⟩
 |tail _ ih=>
  obtain⟨Γ'',h1,h2⟩:=ih
  exact⟨_,.tail h1,.tail h2⟩
theorem st7 {F:List Nat}{w0 w:World}{Γ Γ':List A}{k:Nat}{t:TypeId}{z0 z1 z2 z3 z4 z5 z6 v0 v1 v2 v3 v4 v5 v6:Value}{K:World→Prop}(hT:T F w0 w Γ) (hu:Turn (blk k #[z0,z1,z2,z3,z4,z5,z6] t) (blk k #[v0,v1,v2,v3,v4,v5,v6] t) Γ Γ')
  (h0:scalar v0=true) (h1:scalar v1=true) (h2:scalar v2=true) (h3:scalar v3=true) (h4:scalar v4=true) (h5:scalar v5=true) (h6:scalar v6=true) (hK:∀w',T F w0 w' Γ'→K w'):
  St ⟨k,0,none⟩ v0 w fun w1=>St ⟨k,1,none⟩ v1 w1 fun w2=>St ⟨k,2,none⟩ v2 w2 fun w3=>St ⟨k,3,none⟩ v3 w3 fun w4=>St ⟨k,4,none⟩ v4 w4 fun w5=>St ⟨k,5,none⟩ v5 w5 fun w6=>St ⟨k,6,none⟩ v6 w6 K:=by
 obtain⟨G1,a1,u1⟩:=Turn.mid hu (blk k #[v0,z1,z2,z3,z4,z5,z6] t)
 obtain⟨G2,a2,u2⟩:=Turn.mid u1 (blk k #[v0,v1,z2,z3,z4,z5,z6] t)
 obtain⟨G3,a3,u3⟩:=Turn.mid u2 (blk k #[v0,v1,v2,z3,z4,z5,z6] t)
 obtain⟨G4,a4,u4⟩:=Turn.mid u3 (blk k #[v0,v1,v2,v3,z4,z5,z6] t)
 obtain⟨G5,a5,u5⟩:=Turn.mid u4 (blk k #[v0,v1,v2,v3,v4,z5,z6] t)
 obtain⟨G6,a6,u6⟩:=Turn.mid u5 (blk k #[v0,v1,v2,v3,v4,v5,z6] t)
 refine St.t hT a1 (by simp) rfl h0 fun w1 e1=>?_
 refine St.t e1 a2 (by simp) rfl h1 fun w2 e2=>?_
 refine St.t e2 a3 (by simp) rfl h2 fun w3 e3=>?_
 refine St.t e3 a4 (by simp) rfl h3 fun w4 e4=>?_
 refine St.t e4 a5 (by simp) rfl h4 fun w5 e5=>?_
 refine St.t e5 a6 (by simp) rfl h5 fun w6 e6=>?_
 exact St.t e6 u6 (by simp) rfl h6 hK
def atE (s:RwS) (ds:List Od) (bu:List Int) (row off:Int):Int:=if RMay s ds bu then (if row<0∨row≥s.r∨off<0∨off≥s.k then 70 else 0) else 1
theorem atE_zero {s:RwS}{ds:List Od}{bu:List Int}{row off:Int}(h:atE s ds bu row off=0):RMay s ds bu∧(0≤row∧row<s.r)∧0≤off∧off<s.k:=by
 unfold atE at h
 split at h
 ·rename_i hm
  split at h
  ·omega
  ·exact⟨hm,by omega,by omega⟩
 ·omega
theorem at_spec {s:RwS}{ds:List Od}{bu:List Int}{w:World}(h:RwW s ds bu w) (hl:ds.length≤1000000) (row off:Int):
  Ret Tp 45 #[.agg (rwC s ds.length bu.length),.int .i64 row,.int .i64 off] w (.tuple #[.agg (plC s ds.length bu.length row off),.int .i64 (atE s ds bu row off)]):=by
 refine ret_of (row_Set_at_calls ?_)
 unfold row_Set_at
 refine Alloc.t (T.nil w) fun k3 w1 h1=>Alloc.t h1 fun k6 w2 h2=>?_
 have h2:T [] w w2 [blk k6 plZ 108,blk k3 (rwC s ds.length bu.length) 31]:=h2
 have c3:∀{w':World} {Γ:List A},T [] w w' Γ→blk k3 (rwC s ds.length bu.length) 31∈Γ→∀i v,(rwC s ds.length bu.length)[i]?=some v→w'.cell? ⟨k3,i,none⟩=some v:=fun h' hm i v hv=>h'.ld hm hv
 refine⟨_,_,_,_,_,_,_,_,_,⟨c3 h2 (by repeat constructor) 0 _ rfl,c3 h2 (by repeat constructor) 1 _ rfl,c3 h2 (by repeat constructor) 2 _ rfl,c3 h2 (by repeat constructor) 3 _ rfl,c3 h2 (by repeat constructor) 4 _ rfl⟩,?_⟩
 refine Alloc.t h2 fun k8 w3 h3=>?_
 refine st7 h3 .head rfl rfl rfl rfl rfl rfl rfl fun w4 h4=>?_
 have h4:T [] w w4 [blk k8 (plC s ds.length bu.length row off) 108,blk k6 plZ 108,blk k3 (rwC s ds.length bu.length) 31]:=h4
 refine⟨_,_,_,_,_,_,_,_,_,⟨c3 h4 (by repeat constructor) 0 _ rfl,c3 h4 (by repeat constructor) 1 _ rfl,c3 h4 (by repeat constructor) 2 _ rfl,c3 h4 (by repeat constructor) 3 _ rfl,c3 h4 (by repeat constructor) 4 _ rfl⟩,?_⟩
 refine(may16_spec (h.ext h4.chg.ext) hl).mono fun e w5 ⟨he5,hx5⟩=>⟨_,he5,?_⟩
 have h5:=h4.quiet hx5
 have c8:∀i v,(plC s ds.length bu.length row off)[i]?=some v→w5.cell? ⟨k8,i,none⟩=some v:=fun i v hv=>h5.ld (by repeat constructor) hv
 have out:∀{n:Int},n=atE s ds bu row off→∃n17_0:Int,∃n17_1:Int,∃n17_2:Int,∃(p17_3:Option Addr) (l17_3 c17_3:Nat),∃(p17_4:Option Addr) (l17_4 c17_4:Nat),∃n17_5:Int,∃n17_6:Int,(w5.cell? ⟨k8,0,none⟩=some (.int .i64 n17_0)∧w5.cell? ⟨k8,1,none⟩=some (.int .i64 n17_1)∧w5.cell? ⟨k8,2,none⟩=some (.int .i64 n17_2)∧w5.cell? ⟨k8,3,none⟩=some (.slice p17_3 l17_3 c17_3)∧w5.cell? ⟨k8,4,none⟩=some (.slice p17_4 l17_4 c17_4)∧w5.cell? ⟨k8,5,none⟩=some (.int .i64 n17_5)∧w5.cell? ⟨k8,6,none⟩=some (.int .i64 n17_6))∧
   St ⟨k6,0,none⟩ (.int .i64 n17_0) w5 fun w1=>St ⟨k6,1,none⟩ (.int .i64 n17_1) w1 fun w2=>St ⟨k6,2,none⟩ (.int .i64 n17_2) w2 fun w3=>St ⟨k6,3,none⟩ (.slice p17_3 l17_3 c17_3) w3 fun w4=>St ⟨k6,4,none⟩ (.slice p17_4 l17_4 c17_4) w4 fun w5=>St ⟨k6,5,none⟩ (.int .i64 n17_5) w5 fun w6=>St ⟨k6,6,none⟩ (.int .i64 n17_6) w6 fun w18=>
   ∃nr6_0:Int,∃nr6_1:Int,∃nr6_2:Int,∃(pr6_3:Option Addr) (lr6_3 cr6_3:Nat),∃(pr6_4:Option Addr) (lr6_4 cr6_4:Nat),∃nr6_5:Int,∃nr6_6:Int,(w18.cell? ⟨k6,0,none⟩=some (.int .i64 nr6_0)∧w18.cell? ⟨k6,1,none⟩=some (.int .i64 nr6_1)∧w18.cell? ⟨k6,2,none⟩=some (.int .i64 nr6_2)∧w18.cell? ⟨k6,3,none⟩=some (.slice pr6_3 lr6_3 cr6_3)∧w18.cell? ⟨k6,4,none⟩=some (.slice pr6_4 lr6_4 cr6_4)∧w18.cell? ⟨k6,5,none⟩=some (.int .i64 nr6_5)∧w18.cell? ⟨k6,6,none⟩=some (.int .i64 nr6_6))∧
   (fun u w'=>u=Value.tuple #[.agg (plC s ds.length bu.length row off),.int .i64 (atE s ds bu row off)]∧Ext w w') (.tuple #[.agg #[.int .i64 nr6_0,.int .i64 nr6_1,.int .i64 nr6_2,.slice pr6_3 lr6_3 cr6_3,.slice pr6_4 lr6_4 cr6_4,.int .i64 nr6_5,.int .i64 nr6_6],.int .i64 n]) w18:=by
  intro n hn
  refine⟨_,_,_,_,_,_,_,_,_,_,_,⟨c8 0 _ rfl,c8 1 _ rfl,c8 2 _ rfl,c8 3 _ rfl,c8 4 _ rfl,c8 5 _ rfl,c8 6 _ rfl⟩,?_⟩
  refine st7 h5 (.tail .head) rfl rfl rfl rfl rfl rfl rfl fun w6 h6=>?_
  have h6:T [] w w6 [blk k8 (plC s ds.length bu.length row off) 108,blk k6 (plC s ds.length bu.length row off) 108,blk k3 (rwC s ds.length bu.length) 31]:=h6
  have c6:∀i v,(plC s ds.length bu.length row off)[i]?=some v→w6.cell? ⟨k6,i,none⟩=some v:=fun i v hv=>h6.ld (b:=k6) (by repeat constructor) hv
  exact⟨_,_,_,_,_,_,_,_,_,_,_,⟨c6 0 _ rfl,c6 1 _ rfl,c6 2 _ rfl,c6 3 _ rfl,c6 4 _ rfl,c6 5 _ rfl,c6 6 _ rfl⟩,by rw[hn]; rfl,h6.chg.ext⟩
 by_cases hM:RMay s ds bu
 ·have e0:atE s ds bu row off=if row<0∨row≥s.r∨off<0∨off≥s.k then 70 else 0:=by unfold atE; rw[if_pos hM]
  refine no (by rw[decide_eq_true hM]; rfl) ?_
  refine⟨dec_t fun h1=>out (by rw[e0,if_pos (by omega)]),dec_f fun h1=>⟨_,c3 h5 (by repeat constructor) 2 _ rfl,dec_t fun h2=>out (by rw[e0,if_pos (by omega)]),dec_f fun h2=>⟨dec_t fun h3=>out (by rw[e0,if_pos (by omega)]),dec_f fun h3=>⟨_,c3 h5 (by repeat constructor) 1 _ rfl,dec_t fun h4=>out (by rw[e0,if_pos (by omega)]),dec_f fun h4=>out (by rw[e0,if_neg (by omega)])⟩⟩⟩⟩
 ·refine yes (by rw[decide_eq_false hM]; rfl) ?_
  exact out (by unfold atE; rw[if_neg hM])
theorem first_of {P:Nat→Prop}{n:Nat}(h:∃i,i<n∧P i):∃N,N<n∧P N∧∀k,k<N→¬P k:=by
 obtain⟨i,hi,hp⟩:=h
 induction i using Nat.strongRecOn with
 |ind i ih=>
  by_cases hk:∃k,k<i∧P k
  ·obtain⟨k,h1,h2⟩:=hk
   exact ih k h1 (by omega) h2
  ·exact⟨i,hi,hp,fun k h1 h2=>hk ⟨k,h1,h2⟩⟩
def colX (f:Nat→ByteArray×Int) (n:Nat):List Txt:=(List.range n).map fun i=>(f i).1.data.toList
def colL (f:Nat→ByteArray×Int) (n:Nat):List Int:=((List.range n).filter fun i=>(f i).2 != 0).map fun i:Nat=>(i:Int)
theorem colX_len (f:Nat→ByteArray×Int) (n:Nat):(colX f n).length=n:=by simp[colX]
theorem colX_succ (f:Nat→ByteArray×Int) (n:Nat):txts (colX f n)++[.string (f n).1]=txts (colX f (n+1)):=by
 unfold colX txts
 rw[List.range_succ]
 simp
theorem colL_ok {f:Nat→ByteArray×Int}{n:Nat}(h:(f n).2=0):colL f (n+1)=colL f n:=by
 unfold colL
 rw[List.range_succ]
 simp[h]
theorem colL_no {f:Nat→ByteArray×Int}{n:Nat}(h:(f n).2≠0):colL f (n+1)=colL f n++[(n:Int)]:=by
 unfold colL
 rw[List.range_succ]
 simp[h]
theorem colL_le (f:Nat→ByteArray×Int) (n:Nat):(colL f n).length≤n:=by
 unfold colL
 rw[List.length_map]
 exact Nat.le_trans (List.length_filter_le _ _) (by simp)
theorem intsI_snoc (l:List Int) (x:Int):intsI l++[.int .i64 x]=intsI (l++[x]):=by simp[intsI]
def readR (s:RwS) (ds:List Od) (bu:List Int) (row off:Int):Except Int (List Txt×List Int):=
 if atE s ds bu row off≠0 then .error (atE s ds bu row off) else if (List.range s.c.toNat).any fun i=>(secR s ds bu row off i).2==42 then .error 42 else .ok (colX (fun i=>secR s ds bu row off i) s.c.toNat,colL (fun i=>secR s ds bu row off i) s.c.toNat)
def RdP (r:Except Int (List Txt×List Int)) (w:World) (v:Value) (w':World):Prop:=match r with
 |.error n=>v=.tuple #[.slice none 0 0,.slice none 0 0,.int .i64 n]∧Ext w w'
 |.ok x=>∃g c g' c',v=.tuple #[.slice (ptr g) x.1.length c,.slice (ptr g') x.2.length c',.int .i64 0]∧T [] w w' [rowP 9 1 g x.1.length c (txts x.1),rowP 3 1 g' x.2.length c' (intsI x.2)]
theorem sectors_spec {s:RwS}{n m:Nat}{row off:Int}{w0 w:World}{Γ:List A}(hT:T [] w0 w Γ){Φ:Ending→World→Prop}(hK:∀k w',T [] w0 w' (blk k (plC s n m row off) 108::Γ)→Φ (.returned (.func (.func 127) #[] #[.pointer (some ⟨k,0,none⟩)])) w'):
  Calls Tp 58 #[.agg (plC s n m row off)] w Φ:=by
 refine(row_place_sectors_calls (R:=fun v w'=>Φ (.returned v) w') ?_).mono fun e w' ⟨v,he,h⟩=>by rw[he]; exact h
 unfold row_place_sectors
 exact Alloc.t hT fun k w1 h1=>hK k w1 h1
theorem sectors1_spec {s:RwS}{ds:List Od}{bu:List Int}(hF:FewL ds 1000000) (hM:RMay s ds bu){row off:Int}(hr:0≤row∧row<s.r){k1:Nat}{yv:Value}{J:Nat→World→Prop}{Q:World→Prop}{N:Nat}(hN:(N:Int)≤s.c)
  (hJ:∀m W,J m W→RwW s ds bu W∧∀i v,(plC s ds.length bu.length row off)[i]?=some v→W.cell? ⟨k1,i,none⟩=some v) (hx:∀m W W',J m W→Ext W W'→J m W')
  (hgo:∀m W,m<N→J m W→CallF Tp yv [.string (secR s ds bu row off m).1,.int .i64 (secR s ds bu row off m).2] W fun e w'=>e=.returned (.bool true)∧J (m+1) w')
  (hend:(N:Int)<s.c→∀W,J N W→CallF Tp yv [.string (secR s ds bu row off N).1,.int .i64 (secR s ds bu row off N).2] W fun e w'=>e=.returned (.bool false)∧Q w')
  (hall:(N:Int)=s.c→∀W,J N W→Q W) (W:World) (h0:J 0 W):
  Calls Tp 127 #[yv,.pointer (some ⟨k1,0,none⟩)] W fun e w'=>(∃v,e=.returned v)∧Q w':=by
 refine(row_place_sectors_1_calls (R:=fun v w'=>Q w') ?_).mono fun e w' ⟨v,he,h⟩=>⟨⟨v,he⟩,h⟩
 unfold row_place_sectors_1
 have hc:=hM.1.1
 have hc2:=hM.1.2.1
 refine⟨_,(hJ 0 W h0).2 0 _ rfl,?_⟩
 refine⟨fun vs w'=>∃i:Nat,vs=[.int .i64 (i:Int)]∧i≤N∧J i w',fun vs _=>match vs with|[.int _ i]=>(s.c-i).toNat|_=>0,⟨0,rfl,by omega,h0⟩,?_⟩
 rintro vs w1 ⟨i,rfl,hi,hJi⟩
 refine⟨_,rfl,dec_t fun hlt=>?_,dec_f fun hge=>?_⟩
 ·obtain⟨hW,cl⟩:=hJ i w1 hJi
  refine⟨_,_,_,_,_,_,_,_,_,_,_,⟨cl 0 _ rfl,by rw[addr_add]; exact cl (0+1) _ rfl,by rw[addr_add]; exact cl (0+2) _ rfl,by rw[addr_add]; exact cl (0+3) _ rfl,by rw[addr_add]; exact cl (0+4) _ rfl,by rw[addr_add]; exact cl (0+5) _ rfl,by rw[addr_add]; exact cl (0+6) _ rfl⟩,?_⟩
  refine(sector16_spec hW hF hM (off:=off) hr (role:=(i:Int)) ⟨by omega,hlt⟩).mono fun e w2 ⟨he2,hx2⟩=>⟨_,_,he2,?_⟩
  have hJ2:=hx i _ _ hJi hx2
  by_cases hiN:i<N
  ·refine CallF.mono (hgo i w2 hiN hJ2) fun e w3 ⟨he,hJ3⟩=>⟨true,he,no rfl ⟨⟨i+1,?_,by omega,hJ3⟩,?_⟩⟩
   ·rw[wrap64 _ (by omega) (by omega)]; rfl
   ·show(s.c-IntKind.i64.wrap ((i:Int)+1)).toNat<(s.c-(i:Int)).toNat
    rw[wrap64 _ (by omega) (by omega)]; omega
  ·obtain rfl:i=N:=by omega
   exact CallF.mono (hend hlt w2 hJ2) fun e w3 ⟨he,hq⟩=>⟨false,he,yes rfl hq⟩
 ·obtain rfl:i=N:=by omega
  exact hall (by omega) w1 hJi
abbrev rdG (s:RwS) (n m:Nat) (row off:Int) (k3 k6 k7 k8 k9 k10 k11 k12:Nat) (g:Option Nat) (j cp:Nat) (X:List Txt) (g':Option Nat) (cp':Nat) (l:List Int) (er:Int):List A:=
 [rowP 9 1 g j cp (txts X),rowP 3 1 g' l.length cp' (intsI l),blk k10 (plC s n m row off) 108,blk k12 #[.slice (ptr g') l.length cp'] 29,blk k11 #[.slice (ptr g) j cp] 54,blk k9 (plC s n m row off) 108,blk k8 #[.int .i64 er] 49,blk k7 #[.slice none 0 0] 29,blk k6 #[.slice none 0 0] 54,blk k3 (rwC s n m) 31]
theorem read16_spec {s:RwS}{ds:List Od}{bu:List Int}{w:World}(h:RwW s ds bu w) (hl:ds.length≤1000000) (hF:FewL ds 1000000) (row off:Int):
  Calls Tp 24 #[.agg (rwC s ds.length bu.length),.int .i64 row,.int .i64 off] w fun e w'=>∃v,e=.returned v∧RdP (readR s ds bu row off) w v w':=by
 refine row_Read_calls ?_
 unfold row_Read
 refine Alloc.t (T.nil w) fun k3 w1 h1=>Alloc.t h1 fun k6 w2 h2=>Alloc.t h2 fun k7 w3 h3=>Alloc.t h3 fun k8 w4 h4=>?_
 have h4:T [] w w4 [blk k8 #[.int .i64 0] 49,blk k7 #[.slice none 0 0] 29,blk k6 #[.slice none 0 0] 54,blk k3 (rwC s ds.length bu.length) 31]:=h4
 have c3:∀i v,(rwC s ds.length bu.length)[i]?=some v→w4.cell? ⟨k3,i,none⟩=some v:=fun i v hv=>h4.ld (by repeat constructor) hv
 refine⟨_,_,_,_,_,_,_,_,_,⟨c3 0 _ rfl,c3 1 _ rfl,c3 2 _ rfl,c3 3 _ rfl,c3 4 _ rfl⟩,?_⟩
 refine(at_spec (h.ext h4.chg.ext) hl row off).mono fun e w5 ⟨he5,hx5⟩=>⟨_,_,_,_,_,_,_,_,_,_,_,_,he5,?_⟩
 refine Alloc.t (h4.quiet hx5) fun k9 w6 h6=>?_
 refine st7 h6 .head rfl rfl rfl rfl rfl rfl rfl fun w7 h7=>?_
 have h7:T [] w w7 [blk k9 (plC s ds.length bu.length row off) 108,blk k8 #[.int .i64 0] 49,blk k7 #[.slice none 0 0] 29,blk k6 #[.slice none 0 0] 54,blk k3 (rwC s ds.length bu.length) 31]:=h7
 unfold readR
 refine⟨bne_t fun hn=>?_,bne_f fun hz=>?_⟩
 ·rw[if_pos hn]
  refine St.t h7 (by repeat constructor) (by simp) (by rfl) rfl fun w8 h8=>St.t h8 (by repeat constructor) (by simp) (by rfl) rfl fun w9 h9=>St.t h9 (by repeat constructor) (by simp) (by rfl) rfl fun w10 h10=>?_
  exact⟨_,_,_,h10.ld (b:=k6) (by repeat constructor) rfl,_,_,_,h10.ld (b:=k7) (by repeat constructor) rfl,_,h10.ld (b:=k8) (by repeat constructor) rfl,rfl,h10.chg.ext⟩
 rw[if_neg (by omega)]
 obtain⟨hM,hr,ho⟩:=atE_zero hz
 have hc:=hM.1.1
 have hc2:=hM.1.2.1
 obtain⟨c,hcc⟩:∃c:Nat,s.c=(c:Int):=⟨s.c.toNat,by omega⟩
 rw[hcc,Int.toNat_natCast]
 refine Alloc.t h7 fun k11 w8 h8=>Alloc.t h8 fun k12 w9 h9=>?_
 have c9:∀i v,(plC s ds.length bu.length row off)[i]?=some v→w9.cell? ⟨k9,i,none⟩=some v:=fun i v hv=>h9.ld (b:=k9) (by repeat constructor) hv
 refine⟨_,_,_,_,_,_,_,_,_,_,_,⟨c9 0 _ rfl,c9 1 _ rfl,c9 2 _ rfl,c9 3 _ rfl,c9 4 _ rfl,c9 5 _ rfl,c9 6 _ rfl⟩,?_⟩
 refine sectors_spec h9 fun k10 w10 h10=>⟨_,rfl,?_⟩
 have h11:=T.nilRow (T.nilRow h10 3 1) 9 1
 generalize hf:(fun i:Nat=>secR s ds bu row off (i:Int))=f
 have hfi:∀i:Nat,secR s ds bu row off (i:Int)=f i:=fun i=>by rw[←hf]
 have push:∀(m:Nat) (w1:World) (x y:A) (g:Option Nat) (cp:Nat) (g':Option Nat) (cp':Nat) (l':List Int),T [] w w1 (x::y::rdG s ds.length bu.length row off k3 k6 k7 k8 k9 k10 k11 k12 g m cp (colX f m) g' cp' l' 0)→m≤10→
   ∀(K:World→Prop),(∀g2 cp2 w2,T [] w w2 (x::y::rdG s ds.length bu.length row off k3 k6 k7 k8 k9 k10 k11 k12 g2 (m+1) cp2 (colX f (m+1)) g' cp' l' 0)→K w2)→
   ∃(p40:Option Addr) (l40 c40:Nat),w1.cell? ⟨k11,0,none⟩=some (.slice p40 l40 c40)∧
    Alloc #[.string (f m).1] 9 w1 fun k42 w22=>∃(p43:Option Addr) (l43 c43:Nat),∃w23,(builtin .append #[54,54] 54 #[false,false] #[.slice p40 l40 c40,.slice (some ⟨k42,0,none⟩) 1 1]).run Tp w22=.ok (.value (.slice p43 l43 c43)) w23∧
    St ⟨k11,0,none⟩ (.slice p43 l43 c43) w23 K:=by
  intro m w1 x y g cp g' cp' l' h1 hm K hK
  refine⟨_,_,_,h1.ld (b:=k11) (by repeat constructor) rfl,?_⟩
  refine push1_t (i:=Tryz.t9) (z:=.string (ByteArray.mk #[])) (by kernel_rfl) (by kernel_rfl) (by kernel_rfl) (by kernel_rfl) (by kernel_rfl) (by kernel_rfl) h1 (.tail (.tail .head)) rfl (by omega) fun g2 cp2 w5 h5=>?_
  rw[colX_succ]at h5
  refine St.t h5 (c':=#[.slice (ptr g2) (m+1) cp2]) (by repeat constructor) (by simp) (by rfl) rfl fun w6 h6=>?_
  exact hK g2 cp2 w6 ((h6.pick (.tail (.tail .head))).pick (.tail (.tail .head)))
 have round:∀(obf:LoopState→Option Code→Obj) (l d m:Nat) (g:Option Nat) (cp:Nat) (g':Option Nat) (cp':Nat) (W:World) (Φ:Value→World→Prop),m≤10→(f m).2≠42→T [] w W (ob l (obf .ready none)::ob d (.deferred (some []))::rdG s ds.length bu.length row off k3 k6 k7 k8 k9 k10 k11 k12 g m cp (colX f m) g' cp' (colL f m) 0)→
   (∀g cp g' cp' w',T [] w w' (ob l (obf .ready none)::ob d (.deferred (some []))::rdG s ds.length bu.length row off k3 k6 k7 k8 k9 k10 k11 k12 g (m+1) cp (colX f (m+1)) g' cp' (colL f (m+1)) 0)→Φ (.bool true) w')→(∃s27:ByteArray,∃n28:Int,[Value.string (f m).1,Value.int .i64 (f m).2]=[.string s27,.int .i64 n28]∧
 RoundP obf l Φ (fun K X R w20=>
 Join (fun vs w21=>vs=[]∧
 ∃(p40:Option Addr) (l40 c40:Nat),w21.cell? ⟨k11,0,none⟩=some (.slice p40 l40 c40)∧
 Alloc #[.string s27] 9 w21 fun k42 w22=>
 ∃(p43:Option Addr) (l43 c43:Nat),∃w23,(builtin .append #[54,54] 54 #[false,false] #[.slice p40 l40 c40,.slice (some ⟨k42,0,none⟩) 1 1]).run Tp w22=.ok (.value (.slice p43 l43 c43)) w23∧
 St ⟨k11,0,none⟩ (.slice p43 l43 c43) w23 fun w24=>
 K w24) fun J=>
 ((n28==42)=true→
 St ⟨k6,0,none⟩ (.slice none 0 0) w20 fun w25=>
 St ⟨k7,0,none⟩ (.slice none 0 0) w25 fun w26=>
 St ⟨k8,0,none⟩ (.int .i64 n28) w26 fun w27=>
 R w27)∧
 ((n28==42)=false→
 ((n28==0)=true→
 J [] w20)∧
 ((n28==0)=false→
 ∃(p30:Option Addr) (l30 c30:Nat),w20.cell? ⟨k12,0,none⟩=some (.slice p30 l30 c30)∧
 ∃(p31:Option Addr) (l31 c31:Nat),w20.cell? ⟨k11,0,none⟩=some (.slice p31 l31 c31)∧
 Alloc #[.int .i64 (l31:Int)] 3 w20 fun k33 w28=>
 ∃(p34:Option Addr) (l34 c34:Nat),∃w29,(builtin .append #[29,29] 29 #[false,false] #[.slice p30 l30 c30,.slice (some ⟨k33,0,none⟩) 1 1]).run Tp w28=.ok (.value (.slice p34 l34 c34)) w29∧
 St ⟨k12,0,none⟩ (.slice p34 l34 c34) w29 fun w30=>
 J [] w30))) W):=by
  intro obf l d m g cp g' cp' W Φ hm hn hW hΦ
  refine⟨_,_,rfl,?_⟩
  refine RoundP.t hW (G:=fun Γ'=>∃g cp g' cp',Γ'=ob d (.deferred (some []))::rdG s ds.length bu.length row off k3 k6 k7 k8 k9 k10 k11 k12 g (m+1) cp (colX f (m+1)) g' cp' (colL f (m+1)) 0) ?_ ?_
  ·rintro Γ' w' ⟨g,cp,g',cp',rfl⟩ h'
   exact hΦ g cp g' cp' w' h'
  ·intro K X R w13 h13 hK
   refine Join.intro fun J hJ=>?_
   refine⟨beq_t fun hh=>absurd hh hn,beq_f fun _=>⟨beq_t fun h0=>hJ [] _ ⟨rfl,push m _ _ _ _ _ _ _ _ h13 hm _ fun g2 cp2 w2 h2=>hK _ w2 ⟨g2,cp2,g',cp',rfl⟩ (by rw[colL_ok h0]; exact h2)⟩,beq_f fun h1=>?_⟩⟩
   refine⟨_,_,_,h13.ld (b:=k12) (by repeat constructor) rfl,_,_,_,h13.ld (b:=k11) (by repeat constructor) rfl,?_⟩
   have hle:=colL_le f m
   refine push1_t (i:=Tryz.t3) (z:=.int .i64 0) (by kernel_rfl) (by kernel_rfl) (by kernel_rfl) (by kernel_rfl) (by kernel_rfl) (by kernel_rfl) h13 (.tail (.tail (.tail .head))) rfl (by omega) fun g2 cp2 w5 h5=>?_
   rw[intsI_snoc,←colL_no h1]at h5
   have hl2:(colL f (m+1)).length=(colL f m).length+1:=by rw[colL_no h1]; simp
   rw[←hl2]at h5⊢
   refine St.t h5 (c':=#[.slice (ptr g2) (colL f (m+1)).length cp2]) (by repeat constructor) (by simp) (by rfl) rfl fun w6 h6=>?_
   have h7:=((h6.pick (.tail (.tail (.tail .head)))).pick (.tail (.tail (.tail .head)))).pick (.tail (.tail (.tail .head)))
   exact hJ [] _ ⟨rfl,push m _ _ _ _ _ _ _ _ h7 hm _ fun g3 cp3 w2 h2=>hK _ w2 ⟨g3,cp3,g2,cp2,rfl⟩ h2⟩
 have hev:∀Γk w',T [] w w' Γk→RwW s ds bu w':=fun Γk w' h'=>h.ext h'.chg.ext
 have cok:∀m,colL f m=colL f m:=fun _=>rfl
 by_cases h42:∃i,i<c∧(f i).2=42
 ·obtain⟨N,hN,hN42,hNb⟩:=first_of h42
  rw[if_pos (List.any_eq_true.2 ⟨N,List.mem_range.2 hN,by rw[hfi]; simpa using hN42⟩)]
  refine RangeR.t (by kernel_rfl) h11 (N:=N) (arg:=fun m=>[.string (f m).1,.int .i64 (f m).2])
   (Inv:=fun m Γk=>∃g cp g' cp',Γk=rdG s ds.length bu.length row off k3 k6 k7 k8 k9 k10 k11 k12 g m cp (colX f m) g' cp' (colL f m) 0)
   (Mid:=fun m Γk=>∃g cp g' cp',Γk=rdG s ds.length bu.length row off k3 k6 k7 k8 k9 k10 k11 k12 g (m+1) cp (colX f (m+1)) g' cp' (colL f (m+1)) 0)
   (Out:=fun Γk=>∃g cp g' cp',Γk=rdG s ds.length bu.length row off k3 k6 k7 k8 k9 k10 k11 k12 g N cp (colX f N) g' cp' (colL f N) 42) ?_ ?_ ?_ ?_
  ·intro yv x y z hyes hno W hW
   refine sectors1_spec hF hM (off:=off) hr (N:=N) (by omega) (k1:=k10) (J:=fun m W=>∃Γk,(∃g cp g' cp',Γk=rdG s ds.length bu.length row off k3 k6 k7 k8 k9 k10 k11 k12 g m cp (colX f m) g' cp' (colL f m) 0)∧T [] w W (x::y::Γk)) ?_ ?_ ?_ ?_ ?_ W ⟨_,⟨none,0,none,0,rfl⟩,hW⟩
   ·rintro m W ⟨Γk,⟨g,cp,g',cp',rfl⟩,h'⟩
    exact⟨hev _ _ h',fun i v hv=>h'.ld (b:=k10) (by repeat constructor) hv⟩
   ·rintro m W W' ⟨Γk,hi,h'⟩ hx
    exact⟨Γk,hi,h'.quiet hx⟩
   ·rintro m W hm ⟨Γk,hi,h'⟩
    rw[hfi]
    exact CallF.mono (hyes m W _ hm hi h') fun e w' ⟨he,Γ',hm,hT⟩=>⟨he,Γ',hm,hT⟩
   ·rintro _ W ⟨Γk,hi,h'⟩
    rw[hfi]
    exact hno W _ hi h'
   ·intro hh; omega
  ·rintro obf l d m Γk W Φ hm ⟨g,cp,g',cp',rfl⟩ hW hΦ
   exact round obf l d m g cp g' cp' W Φ (by omega) (hNb m hm) hW fun g cp g' cp' w' h'=>hΦ _ w' ⟨g,cp,g',cp',rfl⟩ h'
  ·rintro obf l d Γk W Φ ⟨g,cp,g',cp',rfl⟩ hW hΦ
   refine⟨_,_,rfl,?_⟩
   refine RoundR.t hW (G:=fun Γ'=>Γ'=ob d (.deferred (some []))::rdG s ds.length bu.length row off k3 k6 k7 k8 k9 k10 k11 k12 g N cp (colX f N) g' cp' (colL f N) 42) ?_ ?_
   ·rintro Γ' w' rfl h'
    exact hΦ _ w' ⟨g,cp,g',cp',rfl⟩ h'
   ·intro K X R w13 h13 hR
    refine Join.intro fun J hJ=>?_
    refine yes (by simpa using hN42) ?_
    refine St.t h13 (by repeat constructor) (by simp) (by rfl) rfl fun w5 h5=>St.t h5 (by repeat constructor) (by simp) (by rfl) rfl fun w6 h6=>St.t h6 (c':=#[.int .i64 42]) (by repeat constructor) (by simp) (by rw[hN42]; rfl) rfl fun w7 h7=>hR _ w7 rfl h7
  ·rintro d Γ' w' ⟨g,cp,g',cp',rfl⟩ h'
   refine⟨h'.got List.mem_cons_self,?_⟩
   have h8:=h'.putTop (o':=.deferred none)
   exact⟨_,_,_,h8.ld (b:=k6) (by repeat constructor) rfl,_,_,_,h8.ld (b:=k7) (by repeat constructor) rfl,_,h8.ld (b:=k8) (by repeat constructor) rfl,rfl,h8.chg.ext⟩
 ·have hno:∀i,i<c→(f i).2≠42:=fun i hi he=>h42 ⟨i,hi,he⟩
  rw[if_neg (fun ha=>by
   obtain⟨i,hi,hb⟩:=List.any_eq_true.1 ha
   rw[hfi]at hb
   exact hno i (List.mem_range.1 hi) (by simpa using hb))]
  refine RangeA.t (by kernel_rfl) h11 (N:=c) (arg:=fun m=>[.string (f m).1,.int .i64 (f m).2])
   (Inv:=fun m Γk=>∃g cp g' cp',Γk=rdG s ds.length bu.length row off k3 k6 k7 k8 k9 k10 k11 k12 g m cp (colX f m) g' cp' (colL f m) 0)
   (Mid:=fun m Γk=>∃g cp g' cp',Γk=rdG s ds.length bu.length row off k3 k6 k7 k8 k9 k10 k11 k12 g (m+1) cp (colX f (m+1)) g' cp' (colL f (m+1)) 0) ?_ ?_ ?_
  ·intro yv x y hyes W hW
   refine sectors1_spec hF hM (off:=off) hr (N:=c) (by omega) (k1:=k10) (J:=fun m W=>∃Γk,(∃g cp g' cp',Γk=rdG s ds.length bu.length row off k3 k6 k7 k8 k9 k10 k11 k12 g m cp (colX f m) g' cp' (colL f m) 0)∧T [] w W (x::y::Γk)) ?_ ?_ ?_ ?_ ?_ W ⟨_,⟨none,0,none,0,rfl⟩,hW⟩
   ·rintro m W ⟨Γk,⟨g,cp,g',cp',rfl⟩,h'⟩
    exact⟨hev _ _ h',fun i v hv=>h'.ld (b:=k10) (by repeat constructor) hv⟩
   ·rintro m W W' ⟨Γk,hi,h'⟩ hx
    exact⟨Γk,hi,h'.quiet hx⟩
   ·rintro m W hm ⟨Γk,hi,h'⟩
    rw[hfi]
    exact CallF.mono (hyes m W _ hm hi h') fun e w' ⟨he,Γ',hm,hT⟩=>⟨he,Γ',hm,hT⟩
   ·intro hh; omega
   ·rintro _ W h'
    exact h'
  ·rintro obf l d m Γk W Φ hm ⟨g,cp,g',cp',rfl⟩ hW hΦ
   exact round obf l d m g cp g' cp' W Φ (by omega) (hno m hm) hW fun g cp g' cp' w' h'=>hΦ _ w' ⟨g,cp,g',cp',rfl⟩ h'
  ·rintro d Γ' w' ⟨g,cp,g',cp',rfl⟩ h'
   have ex:T [] w w'.drew _:=h'.drew
   refine⟨fun w2=>w2.cell? ⟨k11,0,none⟩=some (.slice (ptr g) c cp)∧w2.cell? ⟨k12,0,none⟩=some (.slice (ptr g') (colL f c).length cp'),⟨ex.ld (b:=k11) (by repeat constructor) rfl,ex.ld (b:=k12) (by repeat constructor) rfl⟩,_,_,_,fun w2 hw2=>hw2.1,_,_,_,fun w2 hw2=>hw2.2,?_⟩
   refine St.t ex (c':=#[.slice (ptr g) c cp]) (by repeat constructor) (by simp) (by rfl) rfl fun w5 h5=>⟨⟨h5.ld (b:=k11) (by repeat constructor) rfl,h5.ld (b:=k12) (by repeat constructor) rfl⟩,?_⟩
   refine St.t h5 (c':=#[.slice (ptr g') (colL f c).length cp']) (by repeat constructor) (by simp) (by rfl) rfl fun w6 h6=>⟨⟨h6.ld (b:=k11) (by repeat constructor) rfl,h6.ld (b:=k12) (by repeat constructor) rfl⟩,?_⟩
   refine St.t h6 (by repeat constructor) (by simp) (by rfl) rfl fun w7 h7=>⟨h7.got List.mem_cons_self,?_⟩
   have h8:=h7.putTop (o':=.deferred none)
   refine⟨_,_,_,h8.ld (b:=k6) (by repeat constructor) rfl,_,_,_,h8.ld (b:=k7) (by repeat constructor) rfl,_,h8.ld (b:=k8) (by repeat constructor) rfl,?_⟩
   refine⟨g,cp,g',cp',by rw[colX_len],?_⟩
   rw[colX_len]
   exact T.leave (Γ:=[_,_]) h8.drop
def misL (p:Nat→Bool) (n:Nat):List Int:=((List.range n).filter p).map fun i:Nat=>(i:Int)
open Classical in
noncomputable def filR (s:RwS) (ds:List Od) (bu:List Int) (row off:Int):Except Int (List Txt×List Int):=match readR s ds bu row off with
 |.error n=>.error n
 |.ok x=>if OkM x.1 x.2 then (if x.2.length≤2 then .ok (fillF x.1 x.2,x.2) else .error 60) else .error 1
theorem secR_size {s:RwS}{ds:List Od}{bu:List Int}{w:World}(h:RwW s ds bu w) (row off role:Int):(secR s ds bu row off role).1.size≤64:=by
 unfold secR
 cases hb:builtO s ds bu row role with
 |none=>show 0≤64; omega
 |some x=>
  obtain⟨p,a⟩:=x
  obtain⟨F,w0,X,hd⟩:=h.drive (builtO_get hb)
  exact hd.read_size _
theorem readR_ok {s:RwS}{ds:List Od}{bu:List Int}{row off:Int}{X:List Txt}{l:List Int}(h:readR s ds bu row off=.ok (X,l)):atE s ds bu row off=0∧(∀i:Nat,(i:Int)<s.c→(secR s ds bu row off i).2≠42)∧X=colX (fun i=>secR s ds bu row off i) s.c.toNat∧l=colL (fun i=>secR s ds bu row off i) s.c.toNat:=by
 unfold readR at h
 split at h
 ·cases h
 rename_i h0
 split at h
 ·cases h
 rename_i h1
 cases h
 refine⟨by omega,fun i hi he=>h1 (List.any_eq_true.2 ⟨i,List.mem_range.2 (by omega),by rw[he]; rfl⟩),rfl,rfl⟩
theorem readR_err {s:RwS}{ds:List Od}{bu:List Int}{row off n:Int}(h:readR s ds bu row off=.error n):n≠0:=by
 unfold readR at h
 split at h
 ·cases h; assumption
 split at h
 ·cases h; decide
 ·cases h
open Classical in
theorem filled16_spec {s:RwS}{ds:List Od}{bu:List Int}{w:World}(h:RwW s ds bu w) (hl:ds.length≤1000000) (hF:FewL ds 1000000) (row off:Int):
  Calls Tp 18 #[.agg (rwC s ds.length bu.length),.int .i64 row,.int .i64 off] w fun e w'=>∃v,e=.returned v∧RdP (filR s ds bu row off) w v w':=by
 refine row_Filled_calls ?_
 unfold row_Filled
 refine Alloc.t (T.nil w) fun k3 w1 h1=>?_
 have h1:T [] w w1 [blk k3 (rwC s ds.length bu.length) 31]:=h1
 have c1:∀i v,(rwC s ds.length bu.length)[i]?=some v→w1.cell? ⟨k3,i,none⟩=some v:=fun i v hv=>h1.ld (by repeat constructor) hv
 refine⟨_,_,_,_,_,_,_,_,_,⟨c1 0 _ rfl,c1 1 _ rfl,c1 2 _ rfl,c1 3 _ rfl,c1 4 _ rfl⟩,?_⟩
 refine(read16_spec (h.ext h1.chg.ext) hl hF row off).mono fun e w2 ⟨v,he,hv⟩=>?_
 unfold filR
 cases hR:readR s ds bu row off with
 |error n=>
  rw[hR]at hv
  obtain⟨rfl,hx⟩:=hv
  exact⟨_,_,_,_,_,_,_,he,yes (by simpa using readR_err hR) ⟨rfl,h1.chg.ext.trans hx⟩⟩
 |ok x=>
  obtain⟨X,l⟩:=x
  rw[hR]at hv
  obtain⟨g,c,g',c',rfl,hT⟩:=hv
  refine⟨_,_,_,_,_,_,_,he,no rfl ?_⟩
  obtain⟨hz,h42,hX,hL⟩:=readR_ok hR
  obtain⟨hM,hr,ho⟩:=atE_zero hz
  have hc:=hM.1.1
  have hc2:=hM.1.2.1
  have hXl:X.length=s.c.toNat:=by rw[hX,colX_len]
  have hll:l.length≤s.c.toNat:=by rw[hL]; exact colL_le _ _
  have hS:Short X:=by
   intro x hx
   rw[hX]at hx
   obtain⟨i,_,rfl⟩:=List.mem_map.1 hx
   have:=secR_size h row off i
   have h3:((secR s ds bu row off (i:Int)).1.data.toList).length=(secR s ds bu row off (i:Int)).1.size:=by rw[Array.length_toList]; rfl
   show((secR s ds bu row off (i:Int)).1.data.toList).length≤_
   omega
  have s1:=(T.strs hT (g:=g) (L:=X) (by repeat constructor)).1
  have s2:=(T.ints hT (g:=g') (l:=l) (by repeat constructor)).1
  refine(fill_spec (by omega) (by omega) hS s1 s2 (c:=c) (d:=c')).mono fun e2 w3 hh=>?_
  rcases hh with⟨hO,h2,b,cap,he2,hT2⟩|⟨n,hn,he2,hx,h1',h2'⟩
  ·refine⟨_,_,_,_,he2,no rfl ?_⟩
   show RdP (if OkM X l then (if l.length≤2 then .ok (fillF X l,l) else .error 60) else .error 1) w _ w3
   rw[if_pos hO,if_pos h2]
   have hfl:(fillF X l).length=X.length:=by
    have:=rowP.len (T.says hT2 (by repeat constructor))
    rw[txts_len]at this
    omega
   have hT1:T [] w w2 ([rowP 9 1 g X.length c (txts X),rowP 3 1 g' l.length c' (intsI l)]++[blk k3 (rwC s ds.length bu.length) 31]):=T.call (Γ:=[]) h1 hT
   refine⟨some b,cap,g',c',by rw[hfl]; rfl,?_⟩
   rw[hfl]
   exact T.leave (Γ:=[_,_]) (Δ:=[blk k3 (rwC s ds.length bu.length) 31]) (T.call (Γ:=[]) (Γ':=[rowP 9 1 (some b) X.length cap (txts (fillF X l))]) (T.drop hT1) hT2)
  ·refine⟨_,_,_,_,he2,yes (by simpa using hn) ?_⟩
   have hT1:T [] w w2 ([rowP 9 1 g X.length c (txts X),rowP 3 1 g' l.length c' (intsI l)]++[blk k3 (rwC s ds.length bu.length) 31]):=T.call (Γ:=[]) h1 hT
   show RdP (if OkM X l then (if l.length≤2 then .ok (fillF X l,l) else .error 60) else .error 1) w _ w3
   by_cases hO:OkM X l
   ·obtain⟨h2,rfl⟩:=h1' hO
    rw[if_pos hO,if_neg (by omega)]
    exact⟨rfl,hT1.chg.ext.trans hx⟩
   ·obtain rfl:=h2' hO
    rw[if_neg hO]
    exact⟨rfl,hT1.chg.ext.trans hx⟩
noncomputable def sectR (s:RwS) (ds:List Od) (bu:List Int) (row off i:Int):ByteArray×Int:=
 if atE s ds bu row off≠0 then (noB,atE s ds bu row off) else if i<0∨i≥s.c-2 then (noB,70) else if (secR s ds bu row off i).2≠41 then secR s ds bu row off i else match filR s ds bu row off with
 |.error n=>(noB,n)
 |.ok x=>(strB (x.1.getD i.toNat []),0)
theorem filR_err {s:RwS}{ds:List Od}{bu:List Int}{row off n:Int}(h:filR s ds bu row off=.error n):n≠0:=by
 unfold filR at h
 split at h
 ·rename_i hr; cases h; exact readR_err hr
 ·split at h
  ·split at h
   ·cases h
   ·cases h; decide
  ·cases h; decide
theorem fillF_len (L:List Txt) (l:List Int):(fillF L l).length=L.length:=by
 unfold fillF fillS fillK
 (repeat' split)<;>simp[parF,parP_len,rparQ,byPL_len,byQL_len,zerL_len,bothL]
theorem filR_len {s:RwS}{ds:List Od}{bu:List Int}{row off:Int}{x:List Txt×List Int}(h:filR s ds bu row off=.ok x):x.1.length=s.c.toNat:=by
 unfold filR at h
 split at h
 ·cases h
 ·rename_i y hr
  obtain⟨_,_,hX,_⟩:=readR_ok (X:=y.1) (l:=y.2) hr
  split at h
  ·split at h
   ·cases h
    show(fillF y.1 y.2).length=_
    rw[fillF_len,hX,colX_len]
   ·cases h
  ·cases h
theorem set16_spec {s:RwS}{ds:List Od}{bu:List Int}{w:World}(h:RwW s ds bu w) (hl:ds.length≤1000000) (hF:FewL ds 1000000) (row off i:Int):
  Ret Tp 17 #[.agg (rwC s ds.length bu.length),.int .i64 row,.int .i64 off,.int .i64 i] w (.tuple #[.string (sectR s ds bu row off i).1,.int .i64 (sectR s ds bu row off i).2]):=by
 refine ret_of (row_Sector_calls ?_)
 unfold row_Sector
 refine Alloc.t (T.nil w) fun k4 w1 h1=>?_
 have h1:T [] w w1 [blk k4 (rwC s ds.length bu.length) 31]:=h1
 have c1:∀{w':World} {Γ:List A},T [] w w' Γ→blk k4 (rwC s ds.length bu.length) 31∈Γ→∀i v,(rwC s ds.length bu.length)[i]?=some v→w'.cell? ⟨k4,i,none⟩=some v:=fun h' hm i v hv=>h'.ld hm hv
 refine⟨_,_,_,_,_,_,_,_,_,⟨c1 h1 (by repeat constructor) 0 _ rfl,c1 h1 (by repeat constructor) 1 _ rfl,c1 h1 (by repeat constructor) 2 _ rfl,c1 h1 (by repeat constructor) 3 _ rfl,c1 h1 (by repeat constructor) 4 _ rfl⟩,?_⟩
 refine(at_spec (h.ext h1.chg.ext) hl row off).mono fun e w2 ⟨he2,hx2⟩=>⟨_,_,_,_,_,_,_,_,_,_,_,_,he2,?_⟩
 refine Alloc.t (h1.quiet hx2) fun k6 w3 h3=>?_
 refine st7 h3 .head rfl rfl rfl rfl rfl rfl rfl fun w4 h4=>?_
 have h4:T [] w w4 [blk k6 (plC s ds.length bu.length row off) 108,blk k4 (rwC s ds.length bu.length) 31]:=h4
 unfold sectR
 refine⟨bne_t fun hn=>?_,bne_f fun hz=>?_⟩
 ·rw[if_pos hn]
  exact⟨rfl,h4.chg.ext⟩
 rw[if_neg (by omega)]
 obtain⟨hM,hr,ho⟩:=atE_zero hz
 have hc:=hM.1.1
 have hc2:=hM.1.2.1
 refine⟨dec_t fun hi=>⟨by rw[if_pos (by omega)],h4.chg.ext⟩,dec_f fun hi=>⟨_,c1 h4 (by repeat constructor) 0 _ rfl,?_⟩⟩
 rw[wrap64 (s.c-2) (by omega) (by omega)]
 refine⟨dec_t fun hi2=>⟨by rw[if_pos (by omega)],h4.chg.ext⟩,dec_f fun hi2=>?_⟩
 rw[if_neg (by omega)]
 have c6:∀j v,(plC s ds.length bu.length row off)[j]?=some v→w4.cell? ⟨k6,j,none⟩=some v:=fun j v hv=>h4.ld (b:=k6) (by repeat constructor) hv
 refine⟨_,_,_,_,_,_,_,_,_,_,_,⟨c6 0 _ rfl,c6 1 _ rfl,c6 2 _ rfl,c6 3 _ rfl,c6 4 _ rfl,c6 5 _ rfl,c6 6 _ rfl⟩,?_⟩
 refine(sector16_spec (h.ext h4.chg.ext) hF hM (off:=off) hr (role:=i) ⟨by omega,by omega⟩).mono fun e w5 ⟨he5,hx5⟩=>⟨_,_,he5,bne_t fun hn=>?_,bne_f fun h41=>?_⟩
 ·rw[if_pos hn]
  exact⟨rfl,h4.chg.ext.trans hx5⟩
 rw[if_neg (by omega)]
 have h5:=h4.quiet hx5
 refine⟨_,_,_,_,_,_,_,_,_,⟨c1 h5 (by repeat constructor) 0 _ rfl,c1 h5 (by repeat constructor) 1 _ rfl,c1 h5 (by repeat constructor) 2 _ rfl,c1 h5 (by repeat constructor) 3 _ rfl,c1 h5 (by repeat constructor) 4 _ rfl⟩,?_⟩
 refine(filled16_spec (h.ext h5.chg.ext) hl hF row off).mono fun e w6 ⟨v,he,hv⟩=>?_
 cases hR:filR s ds bu row off with
 |error n=>
  rw[hR]at hv
  obtain⟨rfl,hx⟩:=hv
  exact⟨_,_,_,_,_,_,_,he,yes (by simpa using filR_err hR) ⟨rfl,h5.chg.ext.trans hx⟩⟩
 |ok x=>
  rw[hR]at hv
  obtain⟨g,c,g',c',rfl,hT⟩:=hv
  have hlen:=filR_len hR
  refine⟨_,_,_,_,_,_,_,he,no rfl ?_⟩
  have s1:=(T.strs hT (g:=g) (L:=x.1) (by repeat constructor)).1
  obtain⟨a,ha,hcell⟩:=s1.get (n:=i.toNat) (by omega)
  exact⟨a,ha,by omega,by omega,_,hcell,rfl,h5.chg.ext.trans hT.chg.ext⟩
def flushO (x:Od):Od:=x.map fun y=>(y.1,y.2.flush)
def offO (x:Od):Bool:=match x with
 |some y=>y.2.flush1==42
 |none=>false
theorem flush16_spec {s:RwS}{ds:List Od}{bu:List Int}{F:List Nat}{w0 w:World}{X:List A}(H:Ow (dsK ds) F w0 w X) (hX:∀w',T F w0 w' X→ptrsAt w' s.pd (blks ds)∧intsL w' s.pb bu) (hl:ds.length≤1000000) (hF:FewL ds 1000000):
  Calls Tp 68 #[.agg (rwC s ds.length bu.length)] w fun e w'=>e=.returned (.int .i64 (if RMay s ds bu then (if ds.any offO then 42 else 0) else 1))∧Ow (dsK (if RMay s ds bu then ds.map flushO else ds)) F w0 w' X:=by
 refine rq (row_Flush_calls ?_)
 unfold row_Flush
 refine Ow.alloc H fun k1 w1 H1=>?_
 have H1:Ow (dsK ds) F w0 w1 (blk k1 (rwC s ds.length bu.length) 31::X):=H1
 have c1:∀{w':World} {h:Kd},Ow h F w0 w' (blk k1 (rwC s ds.length bu.length) 31::X)→∀i v,(rwC s ds.length bu.length)[i]?=some v→w'.cell? ⟨k1,i,none⟩=some v:=fun h' i v hv=>h'.ld List.mem_cons_self hv
 refine⟨_,_,_,_,_,_,_,_,_,⟨c1 H1 0 _ rfl,c1 H1 1 _ rfl,c1 H1 2 _ rfl,c1 H1 3 _ rfl,c1 H1 4 _ rfl⟩,?_⟩
 have hX1:=hX _ (T.drop H1.under)
 refine(may16_spec ⟨⟨_,_,_,H1⟩,hX1.1,hX1.2⟩ hl).mono fun e w2 ⟨he2,hx2⟩=>⟨_,he2,?_⟩
 have H2:=H1.quiet hx2
 by_cases hM:RMay s ds bu
 ·rw[if_pos hM,if_pos hM]
  refine no (by rw[decide_eq_true hM]; rfl) ⟨_,_,_,c1 H2 3 _ rfl,?_⟩
  refine⟨fun vs w'=>∃i:Nat,vs=[.bool ((ds.take i).any offO),.int .i64 (i:Int)]∧i≤ds.length∧Ow (dsK ((ds.take i).map flushO++ds.drop i)) F w0 w' (blk k1 (rwC s ds.length bu.length) 31::X),fun vs _=>match vs with|[_,.int _ i]=>(ds.length-i).toNat|_=>0,⟨0,rfl,by omega,by simpa using H2⟩,?_⟩
  rintro vs w3 ⟨i,rfl,hi,H3⟩
  refine⟨_,_,rfl,dec_t fun hlt=>?_,dec_f fun hge=>?_⟩
  ·have hlt:i<ds.length:=by omega
   have hX3:=hX _ (T.drop H3.under)
   have hbl:blks ((ds.take i).map flushO++ds.drop i)=blks ds:=by
    unfold blks
    have e1:∀y:Od,odB (flushO y)=odB y:=fun y=>by cases y<;>rfl
    rw[List.map_append,List.map_map,show odB∘flushO=odB from funext e1,←List.map_append,List.take_append_drop]
   have hlen:((ds.take i).map flushO++ds.drop i).length=ds.length:=by
    have:=congrArg List.length hbl
    rwa [blks_len,blks_len]at this
   have hW:RwW s ((ds.take i).map flushO++ds.drop i) bu w3:=⟨⟨_,_,_,H3⟩,by rw[hbl]; exact hX3.1,hX3.2⟩
   have htl:((ds.take i).map flushO).length=i:=by rw[List.length_map,List.length_take]; omega
   have hgi:((ds.take i).map flushO++ds.drop i)[i]?=some ds[i]:=by
    rw[List.getElem?_append_right (by rw[htl]; exact Nat.le_refl _),htl,Nat.sub_self,List.getElem?_drop,Nat.add_zero,List.getElem?_eq_getElem hlt]
   have hset:∀z,((ds.take i).map flushO++ds.drop i).set i z=(ds.take i).map flushO++z::ds.drop (i+1):=fun z=>by
    rw[List.set_append_right _ _ (by rw[htl]; exact Nat.le_refl _),htl,Nat.sub_self,List.drop_eq_getElem_cons hlt]; rfl
   have hnext:∀z,z=flushO ds[i]→(ds.take i).map flushO++z::ds.drop (i+1)=(ds.take (i+1)).map flushO++ds.drop (i+1):=fun z hz=>by
    rw[hz,List.take_add_one,List.getElem?_eq_getElem hlt,List.map_append]; simp only[Option.toList,List.map_cons,List.map_nil,List.append_assoc,List.singleton_append]
   have hany:∀b,b=offO ds[i]→((ds.take i).any offO||b)=(ds.take (i+1)).any offO:=fun b hb=>by
    rw[hb,List.take_add_one,List.getElem?_eq_getElem hlt,List.any_append]; simp
   have hkeep:flushO ds[i]=ds[i]→Ow (dsK ((ds.take i).map flushO++ds.drop i)) F w0 w3 (blk k1 (rwC s ds.length bu.length) 31::X):=fun _=>H3
   have hwr:IntKind.i64.wrap ((i:Int)+1)=((i+1:Nat):Int):=by rw[wrap64 _ (by omega) (by omega)]; rfl
   have hdec:((ds.length:Int)-IntKind.i64.wrap ((i:Int)+1)).toNat<((ds.length:Int)-(i:Int)).toNat:=by rw[wrap64 _ (by omega) (by omega)]; omega
   refine⟨_,_,_,_,_,_,_,_,_,⟨c1 H3 0 _ rfl,c1 H3 1 _ rfl,c1 H3 2 _ rfl,c1 H3 3 _ rfl,c1 H3 4 _ rfl⟩,?_⟩
   have ht:=there_spec hW (col:=i) (by omega) (m:=bu.length)
   rw[hlen]at ht
   refine ht.mono fun e w4 ⟨he4,hx4⟩=>⟨_,he4,?_⟩
   have hth:thereO ((ds.take i).map flushO++ds.drop i) i=match ds[i] with
     |some x=>if x.2.dead then none else some x
     |none=>none:=by unfold thereO; rw[List.getD_eq_getElem?_getD,hgi]; rfl
   have hself:∀{w':World},flushO ds[i]=ds[i]→Ow (dsK ((ds.take i).map flushO++ds.drop i)) F w0 w' (blk k1 (rwC s ds.length bu.length) 31::X)→Ow (dsK ((ds.take (i+1)).map flushO++ds.drop (i+1))) F w0 w' (blk k1 (rwC s ds.length bu.length) 31::X):=fun hs h=>by
    rw[←hnext ds[i] hs.symm,←hset,set_get_same hgi]; exact h
   have hmem:ds[i]∈ds:=List.getElem_mem hlt
   generalize ds[i]=y at hgi hnext hany hself hmem hth
   cases y with
   |none=>
    rw[hth]
    refine no rfl ⟨⟨i+1,?_,by omega,hself rfl (H3.quiet hx4)⟩,hdec⟩
    rw[hwr,←hany false rfl,Bool.or_false]
   |some z=>
    obtain⟨p,a⟩:=z
    by_cases hd:a.dead=true
    ·have hfl:a.flush1=40:=by unfold AD.flush1; rw[if_pos hd]
     have hff:a.flush=a:=by unfold AD.flush; rw[if_pos (by rw[hfl]; decide)]
     rw[hth.trans (show(if a.dead then none else some (p,a))=none by rw[hd]; rfl)]
     refine no rfl ⟨⟨i+1,?_,by omega,hself (by show some (p,a.flush)=_; rw[hff]) (H3.quiet hx4)⟩,hdec⟩
     rw[hwr,←hany false (by show false=(a.flush1==42); rw[hfl]; rfl),Bool.or_false]
    ·have hd:a.dead=false:=by simpa using hd
     rw[hth.trans (show(if a.dead then none else some (p,a))=some (p,a) by rw[hd]; rfl)]
     refine yes rfl ?_
     refine(Ow.onDrive (H3.quiet hx4) hgi fun Z hZ=>flush_a hZ (hF p a hmem)).mono fun e w5 ⟨he5,h5⟩=>⟨_,he5,?_⟩
     try dsimp only
     rw[hset,hnext (some (p,a.flush)) rfl]at h5
     refine⟨beq_t fun h42=>⟨⟨i+1,?_,by omega,h5⟩,hdec⟩,beq_f fun h42=>⟨⟨i+1,?_,by omega,h5⟩,hdec⟩⟩
     ·rw[hwr,←hany true (by show true=(a.flush1==42); rw[h42]; rfl),Bool.or_true]
     ·rw[hwr,←hany false (by show false=(a.flush1==42); rw[beq_eq_false_iff_ne.2 h42]),Bool.or_false]
  ·obtain rfl:i=ds.length:=by omega
   rw[List.take_length,List.drop_length,List.append_nil]at H3
   rw[List.take_length]
   cases hb:ds.any offO with
   |true=>exact yes rfl ⟨rfl,H3.dropX⟩
   |false=>exact no rfl ⟨rfl,H3.dropX⟩
 ·rw[if_neg hM,if_neg hM]
  exact yes (by rw[decide_eq_false hM]; rfl) ⟨rfl,H2.dropX⟩
theorem Ow.over {h:Kd}{F:List Nat}{w0 w w':World}{X Γ:List A}(H:Ow h [] w w' X) (hT:T F w0 w Γ):Ow h F w0 w' (X++Γ):=by
 obtain⟨Y,hY,h1⟩:=H
 have h2:T F w0 w' ((X++Y)++Γ):=T.call (Γ:=[]) hT h1
 refine⟨Y,hY,h2.swap ?_⟩
 rw[List.append_assoc,List.append_assoc]
 exact List.Perm.append_left _ List.perm_append_comm
theorem T.ptrs {F:List Nat}{w0 w:World}{X:List A}{t:TypeId}{g:Option Nat}{n cap:Nat}{ps:List (Option Nat)}(hT:T F w0 w X) (hm:rowP t 1 g n cap (ptrsV ps)∈X):ptrsAt w (ptr g) ps∧ps.length=n:=by
 have hs:=hT.says hm
 have hl:=rowP.len hs
 rw[ptrsV_len,Nat.mul_one]at hl
 refine⟨⟨fun hne=>?_,fun a ha j x hj=>?_⟩,hl⟩
 ·obtain⟨b,rfl⟩:=rowP.pos hs (by have:=List.length_pos_iff.2 hne; omega)
  exact⟨_,rfl⟩
 ·cases g with
  |none=>cases ha
  |some b=>
   cases ha
   rw[addr_add,Nat.zero_add]
   exact rowP.cell hs (ptrsV_get hj)
theorem push_owN {h:Kd}{F:List Nat}{w0 w:World}{X Δ:List A}{t e:TypeId}{i:TypeInfo}{z v:Value}(ht:Tp.underlying t=some (.slice e)) (hi:Tp.info? e=some i) (hz:i.zero=some z) (hsize:i.size=1) (hzs:z.cells.size=1) (hby:decide (i.bytes≤1000000)=true)
  {g:Option Nat} {n cap:Nat} {xs:List Value} (H:Ow h F w0 w X) (hk:Pick (rowP e 1 g n cap xs) X Δ) (hv:v.oneCell'=true) (hn:n≤1000000) {K:Option Addr→Nat→Nat→World→Prop} (hK:∀g' cap' w',Ow h F w0 w' (rowP e 1 (some g') (n+1) cap' (xs++[v])::Δ)→K (some ⟨g',0,none⟩) (n+1) cap' w'):
  Alloc #[v] e w fun k w1=>∃(p:Option Addr) (l c:Nat),∃w2,(builtin .append #[t,t] t #[false,false] #[.slice (ptr g) n cap,.slice (some ⟨k,0,none⟩) 1 1]).run Tp w1=.ok (.value (.slice p l c)) w2∧K p l c w2:=by
 obtain⟨Y,hY,hT⟩:=H
 refine push1_t ht hi hz hsize hzs hby hT (hk.app Y) hv hn fun g' cap' w' h'=>?_
 obtain⟨b,rfl⟩:=rowP.pos (h'.says List.mem_cons_self) (by omega)
 exact hK b cap' w' ⟨Y,hY,h'⟩
theorem push_owD {h:Kd}{F:List Nat}{w0 w:World}{X Δ:List A}{t e:TypeId}{i:TypeInfo}{z v:Value}(ht:Tp.underlying t=some (.slice e)) (hi:Tp.info? e=some i) (hz:i.zero=some z) (hsize:i.size=1) (hzs:z.cells.size=1) (hby:decide (i.bytes≤1000000)=true)
  {g:Option Nat} {n cap:Nat} {xs:List Value} (H:Ow h F w0 w X) (hk:Pick (rowP e 1 g n cap xs) X Δ) (hv:v.oneCell'=true) (hn:n≤1000000) {D:World→Prop} {K:Option Addr→Nat→Nat→World→Prop} (hD:∀b w',Ow h F w0 w' (b::X)→D w')
  (hK:∀g' cap' w',Ow h F w0 w' (rowP e 1 (some g') (n+1) cap' (xs++[v])::Δ)→K (some ⟨g',0,none⟩) (n+1) cap' w'):
  Alloc #[v] e w fun k w1=>D w1∧∃(p:Option Addr) (l c:Nat),∃w2,(builtin .append #[t,t] t #[false,false] #[.slice (ptr g) n cap,.slice (some ⟨k,0,none⟩) 1 1]).run Tp w1=.ok (.value (.slice p l c)) w2∧K p l c w2:=by
 obtain⟨Y,hY,hT⟩:=H
 refine Alloc.t hT fun k w1 hT1=>⟨hD _ _ ⟨Y,hY,hT1⟩,?_⟩
 have hby':i.bytes≤1000000:=of_decide_eq_true hby
 have hmul:(n+1)*i.bytes≤1000001*1000000:=Nat.mul_le_mul (by omega) hby'
 obtain⟨g',cap',w',hr,hT'⟩:=append_t (ty:=t) #[false,false] ht hi hz hsize hzs hT1 (.tail (hk.app Y)) (a:=⟨k,0,none⟩) (m:=1) (c:=1) (news:=[v]) rfl (fun j u hu=>by
   rw[addr_add,Nat.zero_add]
   exact hT1.ld (by repeat constructor) (by simpa using hu)) (fun u hu=>by obtain rfl:=List.mem_singleton.1 hu; exact hv) (by simp only[maxLen]; omega) (by omega)
 have h3:=T.drop (hT'.swap (.swap _ _ _))
 obtain⟨b,rfl⟩:=rowP.pos (h3.says List.mem_cons_self) (by omega)
 exact⟨_,_,_,w',hr,hK b cap' w' ⟨Y,hY,h3⟩⟩
end Go.Proofs.YtkknkmplmilihaaGreat
end
section
namespace Go.Proofs.YtkknkmplmilihaaGreat
open Go.Sh
theorem mod2 (x c:Int) (h0:0≤x) (h1:x<2*c):x%c=if x<c then x else x-c:=by
 split
 ·exact Int.emod_eq_of_lt h0 (by assumption)
 ·have:x%c=(x-c)%c:=by rw[Int.sub_emod_right]
  rw[this]; exact Int.emod_eq_of_lt (by omega) (by omega)
theorem inG_of {c k r row n most:Int}(h:OkG c k r) (h1:0≤row∧row<r) (h2:0≤n∧n<most):InG c k r row n most:=⟨h,h1.1,h1.2,h2.1,h2.2⟩
theorem par_q {c k r row:Int}(h:InG c k r row 0 1):parQ c k r row=firstG c row:=by simp only[parQ,if_pos h]
theorem par_p {c k r row:Int}(h:InG c k r row 0 1):parP c k r row=if firstG c row=0 then c-1 else firstG c row-1:=by
 have hc:4≤c∧c≤10:=by grind [InG,OkG]
 have h1:=firstG_bd c row hc
 simp only[parP,if_pos h]
 rw[mod2 _ _ (by omega) (by omega)]; split<;>split<;>omega
theorem col_v {c k r row i:Int}(h:InG c k r row i (c-2)):colG c k r row i=if firstG c row+1+i<c then firstG c row+1+i else firstG c row+1+i-c:=by
 have hc:4≤c∧c≤10∧0≤i∧i<c-2:=by grind [InG,OkG]
 have h1:=firstG_bd c row ⟨hc.1,hc.2.1⟩
 simp only[colG,if_pos h]
 exact mod2 _ _ (by omega) (by omega)
theorem role_v {c k r row col:Int}(h:InG c k r row col c):roleG c k r row col=if col=firstG c row then c-1 else if col<firstG c row then col-firstG c row+c-1 else col-firstG c row-1:=by
 have hc:4≤c∧c≤10∧0≤col∧col<c:=by grind [InG,OkG]
 have h1:=firstG_bd c row ⟨hc.1,hc.2.1⟩
 simp only[roleG,if_pos h]
 rw[mod2 _ _ (by omega) (by omega)]
 split<;>split<;>(try split)<;>(try split)<;>omega
end Go.Proofs.YtkknkmplmilihaaGreat
end
section
namespace Go.Proofs.YtkknkmplmilihaaGreat
open Go.Sh Go.RowKit
theorem colR_v {s:RwS}(hG:OkG s.c s.k s.r){row role:Int}(hr:0≤row∧row<s.r) (h0:0≤role∧role<s.c):colR s row role=if firstG s.c row+1+role<s.c then firstG s.c row+1+role else firstG s.c row+1+role-s.c:=by
 have hc:=hG.1
 have hf:0≤firstG s.c row∧firstG s.c row<s.c:=⟨Int.emod_nonneg _ (by omega),Int.emod_lt_of_pos _ (by omega)⟩
 have hin:InG s.c s.k s.r row 0 1:=inG_of hG hr (by omega)
 unfold colR
 split
 ·rw[col_v (inG_of hG hr (by omega))]
 ·split
  ·rw[par_p hin]
   have:role=s.c-2:=by omega
   split<;>split<;>omega
  ·rw[par_q hin,if_neg (by omega)]; omega
theorem colR_inj {s:RwS}(hG:OkG s.c s.k s.r){row a b:Int}(hr:0≤row∧row<s.r) (ha:0≤a∧a<s.c) (hb:0≤b∧b<s.c) (h:colR s row a=colR s row b):a=b:=by
 have hf:0≤firstG s.c row∧firstG s.c row<s.c:=⟨Int.emod_nonneg _ (by have:=hG.1; omega),Int.emod_lt_of_pos _ (by have:=hG.1; omega)⟩
 rw[colR_v hG hr ha,colR_v hG hr hb]at h
 split at h<;>split at h<;>omega
theorem colR_nat {s:RwS}(hG:OkG s.c s.k s.r){row role:Int}(hr:0≤row∧row<s.r) (h0:0≤role∧role<s.c):((colR s row role).toNat:Int)=colR s row role∧((colR s row role).toNat:Int)<s.c:=by
 obtain⟨h1,h2⟩:=colR_in hG hr h0
 omega
theorem mul_apart {k a b x y:Int}(hx:0≤x∧x<k) (hy:0≤y∧y<k) (h:k*a+x=k*b+y):a=b∧x=y:=by
 have h1:(k*a+x) / k=a:=by rw[Int.mul_comm,Int.add_comm,Int.add_mul_ediv_right _ _ (by omega),Int.ediv_eq_zero_of_lt hx.1 hx.2]; omega
 have h2:(k*b+y) / k=b:=by rw[Int.mul_comm,Int.add_comm,Int.add_mul_ediv_right _ _ (by omega),Int.ediv_eq_zero_of_lt hy.1 hy.2]; omega
 have:a=b:=by rw[←h1,←h2,h]
 subst this
 exact⟨rfl,by omega⟩
theorem sectorG_v {c k r row off:Int}(hG:OkG c k r) (hr:0≤row∧row<r) (ho:0≤off∧off<k):sectorG c k r row off=4+k*row+off:=by
 simp only[sectorG,if_pos (inG_of hG hr ho)]
theorem sectorG_in {c k r row off:Int}(hG:OkG c k r) (hr:0≤row∧row<r) (ho:0≤off∧off<k):4≤sectorG c k r row off∧sectorG c k r row off<4+r*k:=by
 rw[sectorG_v hG hr ho]
 have h1:0≤k*row:=Int.mul_nonneg (by omega) hr.1
 have h2:k*(row+1)≤k*r:=Int.mul_le_mul_of_nonneg_left (by omega) (by omega)
 rw[Int.mul_add]at h2
 rw[Int.mul_comm r k]
 omega
theorem sectorG_inj {c k r row off row' off':Int}(hG:OkG c k r) (hr:0≤row∧row<r) (ho:0≤off∧off<k) (hr':0≤row'∧row'<r) (ho':0≤off'∧off'<k) (h:sectorG c k r row off=sectorG c k r row' off'):row=row'∧off=off':=by
 rw[sectorG_v hG hr ho,sectorG_v hG hr' ho']at h
 exact mul_apart ho ho' (by omega)
section
variable {s:RwS}{ds:List Od}{bu:List Int}{N:Nat}
def SetHold (ds:List Od) (N:Nat) (f:Nat→Nat→ByteArray):Prop:=∀i,i<ds.length→∃p a,ds[i]?=some (some (p,a))∧a.Hold N (f i)
theorem SetHold.new {m:Nat}(h:ads ds=List.replicate m (some (AD.new N))):SetHold ds N fun _ _=>zeroSec:=fun i hi=>by
 have hl:ds.length=m:=by have:=congrArg List.length h; simpa[ads] using this
 have h1:(ads ds)[i]?=some (some (AD.new N)):=by rw[h,List.getElem?_replicate,if_pos (by omega)]
 unfold ads at h1
 rw[List.getElem?_map,List.getElem?_eq_getElem hi]at h1
 cases hx:ds[i] with
 |none=>rw[hx]at h1; cases h1
 |some y=>
  rw[hx]at h1
  have:y.2=AD.new N:=by simpa[adO] using h1
  exact⟨y.1,y.2,by rw[List.getElem?_eq_getElem hi,hx],by rw[this]; exact hold_new N⟩
end
theorem flush_blks (ds:List Od):blks (ds.map flushO)=blks ds:=by
 unfold blks
 have e1:∀y:Od,odB (flushO y)=odB y:=fun y=>by cases y<;>rfl
 rw[List.map_map,show odB∘flushO=odB from funext e1]
end Go.Proofs.YtkknkmplmilihaaGreat
end
