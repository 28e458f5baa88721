import Derived.Laws.Strings
import Derived.Test.YtkknkmplmilihaaGreatD2
import Derived.Test.YtkknkmplmilihaaGreatD4
import Derived.Test.YtkknkmplmilihaaGreatD5
set_option linter.unusedSimpArgs false
set_option linter.unusedVariables false
set_option maxHeartbeats 1000000
set_option maxRecDepth 20000
section
namespace Go.Proofs.YtkknkmplmilihaaGreat
open Go.Sh Go.RowKit Go.Maps Go.Sort Go.Shelf
def plainR {H:Type}:Value→Option (DataW H×List MemPlace):=fun _=>some (.nil,[])
theorem keys_fit {H:Type}{P:Program}{kt:TypeId}(hk:P.underlying kt=some (.int .i64)){l:List Ent}{clock:Nat}(hn:l.length≤5000) (hb:∀x∈l,x.2.2<clock) (hd:(l.map (·.2.2)).Nodup) (hkn:(l.map (·.1)).Nodup)
  (hw:∀x∈l,(Lit.int .i64 x.1).wf=true):Go.WideElems.Fit P kt (plainR (H:=H)) (l.map ent).toArray clock:=by
 refine⟨by simp only[List.size_toArray,List.length_map,maxLen]; omega,⟨fun x hx=>?_,?_,?_⟩,fun x hx=>?_⟩
 ·obtain⟨y,hy,rfl⟩:=List.mem_map.1 (show x∈l.map ent from hx)
  exact hb y hy
 ·show((l.map ent).map (·.born)).Nodup
  rw[List.map_map]; exact hd
 ·show((l.map ent).map (·.key)).Nodup
  have e:(l.map ent).map (·.key)=(l.map (·.1)).map (Value.int .i64):=by simp[ent]
  rw[e]
  exact List.Pairwise.map _ (fun a b hab he=>hab (by simpa using he)) hkn
 ·obtain⟨y,hy,rfl⟩:=List.mem_map.1 (show x∈l.map ent from hx)
  exact⟨_,Go.WideElems.rd_mk (keyOf_int_mk hk (hw y hy)) rfl⟩
theorem intKeys_perm {H:Type}{P:Program}{kt:TypeId}(hk:P.underlying kt=some (.int .i64)){l:List Ent}(hw:∀x∈l,(Lit.int .i64 x.1).wf=true):
  (intKeys (DataW.map (((l.map ent).map (Go.WideElems.rg P kt (plainR (H:=H)))).foldr DataW.insert []))).Perm (l.map (·.1)):=by
 refine(List.Perm.map _ (WideShapes.sorted_perm _)).trans ?_
 rw[List.map_map,List.map_map]
 refine List.Perm.of_eq (List.map_congr_left fun x hx=>?_)
 have h1:Go.WideElems.rg P kt (plainR (H:=H)) (ent x)=(.int .i64 x.1,.nil):=Go.WideElems.rg_of (Go.WideElems.rd_mk (yv:=(.nil,[])) (keyOf_int_mk hk (hw x hx)) rfl)
 simp only[Function.comp,h1]
 rfl
theorem T.below {F:List Nat}{w0 w w':World}{Γ:List A}(h:T F w0 w Γ) (hb:Below w.heap.size w w'):T F w0 w' Γ:=
 h.quiet ⟨hb.os,hb.output,hb.size,hb.block⟩
theorem sorts_at (m:Nat):AnyZI.SortsIn Tp Tryz.sorted52_ren Fence.wide m:=
 ⟨fun blk off cap ss W hH hblk hsz=>callsIn_wide.2 (AnyM.slices_Sort_int Tryz.sort118 blk off cap ss W hH hblk hsz),
  fun p cap W=>callsIn_wide.2 (AnyM.slices_Sort_int_none Tryz.sort118 p cap W)⟩
theorem T.ownRow {F:List Nat}{w0 w w':World}{Γ:List A}{base size n:Nat}{e:TypeId}{v:Value}{xs:List Value}(h:T F w0 w Γ) (hb:Below base w w') (hbase:base=w.heap.size) (ho:w'.ownsRow base e size v n xs):
  ∃g cap,v=.slice (ptr g) n cap∧T F w0 w' (rowP e size g n cap xs::Γ):=by
 subst hbase
 have h1:=T.below h hb
 obtain⟨hx,⟨rfl,rfl⟩|⟨g,cap,cur,rfl,hg,hc,h2,h3,h4,h5⟩⟩:=ho
 ·have:xs=[]:=List.eq_nil_of_length_eq_zero (by simpa using hx)
  subst this
  exact⟨none,0,rfl,h1.nilRow e size⟩
 ·refine⟨some g,cap,rfl,h1.chg,?_,fun b hb'=>?_,fun a ha=>?_⟩
  ·refine List.nodup_append.2 ⟨by simp[rowP],h1.nodup,fun x hx' y hy he=>?_⟩
   subst he
   obtain rfl:x=g:=by simpa[rowP] using hx'
   have:=(h.own _ hy).1
   omega
  ·rcases List.mem_append.1 hb' with hb'|hb'
   ·obtain rfl:b=g:=by simpa[rowP] using hb'
    exact⟨lt_of_heap hc,.inr (Nat.le_trans h.chg.size hg)⟩
   ·exact h1.own b hb'
  ·rcases List.mem_cons.1 ha with rfl|ha
   ·exact⟨hx,h2,h3,cur,hc,h4,h5⟩
   ·exact h1.holds a ha
theorem keys_spec {F:List Nat}{w0 w:World}{Γ:List A}{bm clock:Nat}{l:List Ent}(hT:T F w0 w Γ) (hm:mapP bm l clock∈Γ){n:Nat}(hln:l.length=n) (hn:l.length≤5000) (hb:∀x∈l,x.2.2<clock) (hd:(l.map (·.2.2)).Nodup) (hkn:(l.map (·.1)).Nodup)
  (hw:∀x∈l,(Lit.int .i64 x.1).wf=true) {Φ:Ending→World→Prop}
  (hΦ:∀(g:Option Nat) (cap:Nat) (w2:World),T F w0 w2 (rowP 3 1 g n cap (((l.map (·.1)).mergeSort leI).map (.int .i64))::Γ)→Φ (.returned (.slice (ptr g) n cap)) w2):
  Calls Tp 146 #[.map (some bm)] w fun e w1=>∃v,e=.returned v∧Calls Tp 52 #[v] w1 Φ:=by
 subst hln
 have hi:Tp.underlying 3=some (.int .i64):=by kernel_rfl
 have hmb:=hT.got hm
 have Ft:=keys_fit (H:=Unit) hi hn hb hd hkn hw
 have hown:w.ownsMap Tp 3 (plainR (H:=Unit)) bm 5000 (.map (((l.map ent).toArray.toList.map (Go.WideElems.rg Tp 3 plainR)).foldr DataW.insert [])):=⟨_,_,hmb,Ft,by simpa using hn,rfl⟩
 have hp:=intKeys_perm (H:=Unit) hi hw
 have hsz:Maps.size (DataW.map (((l.map ent).toArray.toList.map (Go.WideElems.rg Tp 3 (plainR (H:=Unit)))).foldr DataW.insert []))=l.length:=by
  show(List.foldr DataW.insert [] ((l.map ent).map _)).length=_
  rw[(WideShapes.sorted_perm _).length_eq]; simp
 have hbl:=hown.lt
 have hseq:SeqGives Fence.wide 2 Tp 198 #[.pointer (some ⟨w.heap.size,0,none⟩)] encZ (fun ss=>ss.Perm (intKeys _)) (Maps.size _) (w.alloc (.cells #[.map (some bm)] 149)):=
  AnyZI.keys_gives (ρ:=Tryz.keys146_ren) { Tryz.keys146 with } Fence.wide _ trivial rfl (by omega) w.heap.size bm 5000 _ _ (by simp) (by simp) (by
   obtain⟨es,clock,hb,Ft,hs,hD⟩:=hown
   exact⟨es,clock,(Below.heap_alloc _ _ bm hbl).trans hb,Ft,hs,hD⟩)
 have cK:CallsIn Fence.wide 5 Tp 146 #[.map (some bm)] w fun e w'=>e=.returned (.func (.func 198) #[] #[.pointer (some ⟨w.heap.size,0,none⟩)])∧w'=w.alloc (.cells #[.map (some bm)] 149):=AnyZI.keys_in Tryz.keys146 Fence.wide 5 trivial rfl (some bm) w
 have cS:=AnyZI.sorted_in Tryz.sorted52 Fence.wide 5 trivial trivial trivial trivial rfl (by omega) (sorts_at _) (enters_of Tryz.func118 (by kernel_rfl) rfl) 198 #[.pointer (some ⟨w.heap.size,0,none⟩)] trivial (enters_of Tryz.func198 (by kernel_rfl) rfl) _ _ (by rw[hsz]; simp only[maxLen]; omega) (by rw[hsz]; omega) _ hseq
 change CallsIn _ _ Tp 52 _ _ _ at cS
 refine(callsIn_wide.1 cK).mono ?_
 rintro e w1 ⟨rfl,rfl⟩
 refine⟨_,rfl,(callsIn_wide.1 cS).mono ?_⟩
 rintro e w2 ⟨v,ss,rfl,hS,hrow,-,hbel⟩
 have hss:ss.Perm (l.map (·.1)):=List.Perm.trans hS hp
 have hl:ss.length=l.length:=by rw[hss.length_eq]; simp
 have hrow':w2.ownsRow (w.alloc (.cells #[.map (some bm)] 149)).heap.size 3 1 v ss.length ((ss.mergeSort (fun x y=>decide (x≤y))).map encZ):=hrow
 have hms:ss.mergeSort (fun x y=>decide (x≤y))=(l.map (·.1)).mergeSort leI:=mergeSort_of_perm_i hss
 rw[hl,hms]at hrow'
 obtain⟨g,cap,rfl,hT2⟩:=T.ownRow (hT.alloc _) hbel rfl hrow'
 exact hΦ g cap w2 (T.drop (hT2.swap (.swap _ _ _)))
end Go.Proofs.YtkknkmplmilihaaGreat
end
section
namespace Go.Proofs.YtkknkmplmilihaaGreat
open Go.Sh Go.Maps
abbrev keysW (ws:List WE):List Int:=(ws.map (·.k)).mergeSort leI
def settleN (g:Nat→Nat→Nat) (ws:List WE) (safe:List ByteArray):Nat→List ByteArray
 |0=>safe
 |j+1=>match (keysW ws)[j]? with
  |none=>settleN g ws safe j
  |some i=>if 0<g j (pendW ws i).length then (settleN g ws safe j).set i.toNat ((pendW ws i).getD (g j (pendW ws i).length-1) (ByteArray.mk #[])) else settleN g ws safe j
def settled (g:Nat→Nat→Nat) (D:DL):DL:={ D with safe:=settleN g D.ws D.safe D.ws.length,ws:=[] }
theorem settleN_len (g:Nat→Nat→Nat) (ws:List WE) (safe:List ByteArray) (j:Nat):(settleN g ws safe j).length=safe.length:=by
 induction j with
 |zero=>rfl
 |succ j ih=>
  unfold settleN
  split
  ·exact ih
  ·split
   ·rw[List.length_set,ih]
   ·exact ih
theorem keysW_len (ws:List WE):(keysW ws).length=ws.length:=by simp[keysW]
theorem keysW_mem {ws:List WE}{i:Int}:i∈keysW ws↔∃e∈ws,e.k=i:=by simp[keysW,List.mem_mergeSort]
theorem find_of_mem {ws:List WE}(hn:(ws.map (·.k)).Nodup){e:WE}(he:e∈ws):ws.find? (fun x=>x.k==e.k)=some e:=by
 induction ws with
 |nil=>cases he
 |cons x ws ih=>
  simp only[List.map_cons,List.nodup_cons]at hn
  rw[List.find?_cons]
  rcases List.mem_cons.1 he with rfl|he
  ·simp
  ·have:(x.k==e.k)=false:=by
    have:x.k≠e.k:=fun h=>hn.1 (h▸List.mem_map_of_mem he)
    simpa using this
   rw[this]
   exact ih hn.2 he
theorem settleN_64 (g:Nat→Nat→Nat) (ws:List WE) (safe:List ByteArray) (hs:∀s∈safe,s.size=64) (hw:∀e∈ws,∀s∈e.l,s.size=64) (hg:∀j m,g j m≤m) (j:Nat):∀s∈settleN g ws safe j,s.size=64:=by
 induction j with
 |zero=>exact hs
 |succ j ih=>
  unfold settleN
  split
  ·exact ih
  ·rename_i i hi
   split
   ·rename_i hp
    intro s hs
    rcases List.mem_or_eq_of_mem_set hs with h|rfl
    ·exact ih s h
    ·have hlt:g j (pendW ws i).length-1<(pendW ws i).length:=by have:=hg j (pendW ws i).length; omega
     rw[List.getD_eq_getElem?_getD,List.getElem?_eq_getElem hlt]
     simp only[Option.getD_some]
     have hm:(pendW ws i)[g j (pendW ws i).length-1]∈pendW ws i:=List.getElem_mem hlt
     generalize (pendW ws i)[g j (pendW ws i).length-1]=x at hm
     unfold pendW at hm
     split at hm
     ·rename_i e he
      exact hw e (List.mem_of_find?_eq_some he) x hm
     ·cases hm
   ·exact ih
theorem T.row_cells {F:List Nat}{w0 w:World}{Γ:List A}(h:T F w0 w Γ){e:TypeId}{b n cap i:Nat}{l:List ByteArray}{s:ByteArray}(hm:rowP e 64 (some b) n cap (flat l)∈Γ) (h64:∀s∈l,s.size=64) (hs:l[i]?=some s):
  bigAt w (Addr.add ⟨b,0,none⟩ (i*64)) (vals s).toArray:=by
 intro j hj
 have h64s:s.size=64:=h64 s (List.mem_of_getElem? hs)
 have hj':j<64:=by rw[List.size_toArray,vals_len,h64s]at hj; exact hj
 rw[addr_add,addr_add,Nat.zero_add,List.getElem?_toArray,vals_get (by omega)]
 refine rowP.cell (h.holds _ hm) ?_
 rw[flat_get h64 i j s hs hj',vals_get (by omega)]
theorem lookT {D:DL}{w:World}(hm:w.heap[D.bm]?=some (.map ((D.ws.map WE.ent).map ent).toArray D.clk)) (i:Int):
  (Instr.lookup 149 (.map (some D.bm)) (.int .i64 i) false).run Tp w=.ok (match wfind D i with|some e=>.slice (ptr e.g) e.l.length e.cap|none=>.slice none 0 0) w:=by
 have h1:=lookup_ints (P:=Tp) (t:=149) (kt:=3) (e:=148) (z:=.slice none 0 0) (w:=w) (b:=D.bm) (l:=D.ws.map WE.ent) (clock:=D.clk) (by kernel_rfl) (by kernel_rfl) (by kernel_rfl) hm i
 rw[h1,getK_ws]
 unfold wfind
 cases D.ws.find? fun e=>e.k==i<;>rfl
theorem settle_spec (D:DL) (fv:Value) (g:Nat→Nat→Nat){F:List Nat}{w0 w:World}{X:List A}(hT:T F w0 w (X++drvL D)) (hD:DOk D) (hg:∀j m,g j m≤m) (hL:∀e∈D.ws,e.l.length≤1000000) (hn:D.ws.length≤4096)
  (hmany:∀(j m:Nat) (w1:World),T F w0 w1 X→j<4096→m≤1000000→CallF Tp fv [.int .i64 j,.int .i64 m] w1 fun e w'=>e=.returned (.int .i64 (g j m))∧Ext w1 w'):
  Calls Tp 76 #[.pointer (some ⟨D.p,0,none⟩),fv] w fun e w'=>∃v,e=.returned v∧v=.tuple #[]∧T F w0 w' (X++drvL (settled g D)):=by
 refine drive_Drive_settle_calls ?_
 unfold drive_Drive_settle
 have hT1:T F w0 w (drvL D++X):=hT.swap List.perm_append_comm
 have hks:(D.ws.map WE.ent).map (·.1)=D.ws.map (·.k):=by rw[List.map_map]; rfl
 have hbs:(D.ws.map WE.ent).map (·.2.2)=D.ws.map (·.born):=by rw[List.map_map]; rfl
 refine⟨_,rfl,_,hT1.ldA (by repeat constructor) rfl,keys_spec (l:=D.ws.map WE.ent) (bm:=D.bm) (clock:=D.clk) hT1 (.tail _ (.tail _ (.head _))) (n:=D.ws.length) (by simp) (by simp; omega) (fun x hx=>?_) (by rw[hbs]; exact hD.wd) (by rw[hks]; exact hD.wn) (fun x hx=>?_) fun gk cap w2 hT2=>?_⟩
 ·obtain⟨e,he,rfl⟩:=List.mem_map.1 hx
  exact hD.wb e he
 ·obtain⟨e,he,rfl⟩:=List.mem_map.1 hx
  have:=(hD.wk e he)
  have h2:=hD.n1
  simp[Lit.wf,WE.ent,IntKind.min,IntKind.max,IntKind.bits,IntKind.signed]
  omega
 rw[hks]at hT2
 refine⟨_,_,_,rfl,?_⟩
 refine⟨fun vs w'=>∃n:Nat,vs=[.int .i64 n]∧n≤D.ws.length∧T F w0 w' (rowP 3 1 gk D.ws.length cap ((keysW D.ws).map (.int .i64))::(drvL { D with safe:=settleN g D.ws D.safe n }++X)),fun vs _=>match vs with|[.int _ n]=>(D.ws.length-n).toNat|_=>0,⟨0,rfl,by omega,hT2⟩,?_⟩
 rintro vs w3 ⟨n,rfl,hnl,hT3⟩
 have key:drvL { D with safe:=settleN g D.ws D.safe n }=[blk D.p #[.slice (some ⟨D.bs,0,none⟩) D.safe.length D.safe.length,.map (some D.bm),.map (some D.bp),.bool D.dead,.int .i64 D.left,.bool D.cut] 151,
  rowP 208 64 (some D.bs) D.safe.length D.safe.length (flat (settleN g D.ws D.safe n)),mapP D.bm (D.ws.map WE.ent) D.clk,mapP D.bp D.sp D.clk2]++D.ws.map WE.row:=by simp only[drvL,settleN_len]
 rw[key]at hT3
 have h64n:=settleN_64 g D.ws D.safe hD.s64 hD.w64 hg n
 refine⟨_,rfl,dec_t fun hlt=>?_,dec_f fun hge=>?_⟩
 ·have hlt:n<D.ws.length:=by omega
  have hkl:n<(keysW D.ws).length:=by rw[keysW_len]; exact hlt
  obtain⟨e,hem,hek⟩:=keysW_mem.1 (List.getElem_mem hkl)
  have hwf:=hD.wk e hem
  have hf:wfind D (keysW D.ws)[n]=some e:=by unfold wfind; rw[←hek]; exact find_of_mem hD.wn hem
  have hpend:pendW D.ws (keysW D.ws)[n]=e.l:=by unfold pendW; unfold wfind at hf; rw[hf]
  have hstep:settleN g D.ws D.safe (n+1)=if 0<g n e.l.length then (settleN g D.ws D.safe n).set e.k.toNat (e.l.getD (g n e.l.length-1) (ByteArray.mk #[])) else settleN g D.ws D.safe n:=by
   conv=>lhs; unfold settleN
   rw[List.getElem?_eq_getElem hkl]
   simp only[hpend,hek]
  obtain⟨b,rfl⟩:=rowP.pos (hT3.says List.mem_cons_self) (by omega)
  refine⟨_,rfl,by omega,by omega,(keysW D.ws)[n],?_,?_⟩
  ·rw[addr_add,Nat.zero_add]
   refine rowP.cell (hT3.says List.mem_cons_self) ?_
   simp
  refine⟨_,rfl,_,hT3.ldA (by repeat constructor) rfl,?_⟩
  have hlk:=lookT (D:=D) (w:=w3) (hT3.got (show mapP D.bm (D.ws.map WE.ent) D.clk∈_ from(by repeat constructor))) (keysW D.ws)[n]
  rw[hf]at hlk
  refine⟨_,_,_,_,hlk,?_⟩
  have hX:T F w0 w3 X:=T.dropAll (T.drop hT3)
  refine CallF.mono (hmany n e.l.length w3 hX (by omega) (hL e hem)) fun e2 w5 ⟨he2,hx⟩=>⟨_,he2,?_⟩
  have hT5:=hT3.quiet hx
  have wr:IntKind.i64.wrap ((n:Int)+1)=((n+1:Nat):Int):=by rw[wrap64 _ (by omega) (by omega)]; omega
  have meas:(((D.ws.length:Int)-((n+1:Nat):Int)).toNat<((D.ws.length:Int)-(n:Int)).toNat):=by omega
  refine⟨dec_t fun hp=>?_,dec_f fun hp=>?_⟩
  ·have hp':0<g n e.l.length:=by omega
   have hgl:=hg n e.l.length
   have hll:=hL e hem
   have w1':IntKind.i64.wrap ((g n e.l.length:Int)-1)=((g n e.l.length-1:Nat):Int):=by rw[wrap64 _ (by omega) (by omega)]; omega
   have hlt1:g n e.l.length-1<e.l.length:=by omega
   obtain⟨be,hbe⟩:=rowP.pos (hT5.says (x:=e.row) (List.mem_cons_of_mem _ (List.mem_append_left _ (List.mem_append_right _ (List.mem_map_of_mem hem))))) (by omega)
   have hrow:rowP 208 64 (some be) e.l.length e.cap (flat e.l)∈rowP 3 1 (some b) D.ws.length cap ((keysW D.ws).map (.int .i64))::([blk D.p #[.slice (some ⟨D.bs,0,none⟩) D.safe.length D.safe.length,.map (some D.bm),.map (some D.bp),.bool D.dead,.int .i64 D.left,.bool D.cut] 151,
     rowP 208 64 (some D.bs) D.safe.length D.safe.length (flat (settleN g D.ws D.safe n)),mapP D.bm (D.ws.map WE.ent) D.clk,mapP D.bp D.sp D.clk2]++D.ws.map WE.row++X):=by
    have h1:e.row∈D.ws.map WE.row:=List.mem_map_of_mem hem
    unfold WE.row at h1
    rw[hbe]at h1
    exact List.mem_cons_of_mem _ (List.mem_append_left _ (List.mem_append_right _ h1))
   have hgs:e.l[g n e.l.length-1]?=some e.l[g n e.l.length-1]:=List.getElem?_eq_getElem hlt1
   have hs64:(e.l[g n e.l.length-1]).size=64:=hD.w64 e hem _ (List.getElem_mem hlt1)
   have hz:(vals e.l[g n e.l.length-1]).toArray.size=64:=by rw[List.size_toArray,vals_len,hs64]
   rw[w1',hbe]
   have hil:(keysW D.ws)[n].toNat<D.safe.length:=by rw[←hek]; omega
   obtain⟨w6,hr,hT6⟩:=storeRow_t (P:=Tp) (t0:=208) (i:=Tryz.t208) (o:=(keysW D.ws)[n].toNat*64) (cs:=(vals e.l[g n e.l.length-1]).toArray) (b:=D.bs) (e:=208) (size:=64) (n:=D.safe.length) (cap:=D.safe.length) (xs:=flat (settleN g D.ws D.safe n)) hT5.drew (.tail (.tail .head)) (by kernel_rfl) (by rw[hz]; kernel_rfl) (by
    intro v hv
    obtain⟨b,_,rfl⟩:=List.mem_map.1 (show v∈vals _ from hv)
    rfl) (by rw[hz,flat_len h64n,settleN_len]; omega)
   rw[hz,flat_set h64n (by rw[settleN_len]; exact hil) hs64]at hT6
   refine⟨fun w=>T F w0 w _,hT5.drew,_,rfl,_,_,_,fun w h=>h.ld (by repeat constructor) rfl,_,rfl,by omega,by omega,_,hz,fun w h=>?_,_,rfl,by rw[←hek]; omega,by rw[←hek]; omega,?_⟩
   ·have:=T.row_cells h hrow (hD.w64 e hem) hgs
    rwa [show((g n e.l.length-1:Nat):Int).toNat=g n e.l.length-1 by omega]
   rw[addr_add,Nat.zero_add]
   refine⟨w6,hr,⟨n+1,by rw[wr],by omega,?_⟩,by rw[wr]; exact meas⟩
   have key2:drvL { D with safe:=settleN g D.ws D.safe (n+1) }=[blk D.p #[.slice (some ⟨D.bs,0,none⟩) D.safe.length D.safe.length,.map (some D.bm),.map (some D.bp),.bool D.dead,.int .i64 D.left,.bool D.cut] 151,
    rowP 208 64 (some D.bs) D.safe.length D.safe.length (flat ((settleN g D.ws D.safe n).set (keysW D.ws)[n].toNat e.l[g n e.l.length-1])),mapP D.bm (D.ws.map WE.ent) D.clk,mapP D.bp D.sp D.clk2]++D.ws.map WE.row:=by
     have hset:settleN g D.ws D.safe (n+1)=(settleN g D.ws D.safe n).set (keysW D.ws)[n].toNat e.l[g n e.l.length-1]:=by
      rw[hstep,if_pos hp',hek,List.getD_eq_getElem?_getD,hgs]; rfl
     simp only[drvL,hset,List.length_set,settleN_len]
   rw[key2]
   refine hT6.swap ?_
   exact(List.Perm.swap _ _ _).trans (((List.Perm.swap _ _ _).cons _))
  ·refine⟨⟨n+1,by rw[wr],by omega,?_⟩,by rw[wr]; exact meas⟩
   have:settleN g D.ws D.safe (n+1)=settleN g D.ws D.safe n:=by rw[hstep,if_neg (by omega)]
   rw[this,key]
   exact hT5
 ·have hn':n=D.ws.length:=by omega
  subst hn'
  have hT4:=T.drop hT3
  obtain⟨w7,hc,hT7⟩:=clear_t (P:=Tp) (t:=149) (kt:=3) (e:=148) (ty:=0) (ts:=#[149]) (cs:=#[false]) (b:=D.bm) (l:=D.ws.map WE.ent) (clock:=D.clk) rfl (by kernel_rfl) hT4 (.tail (.tail .head))
  refine⟨_,rfl,_,hT4.ldA (by repeat constructor) rfl,w7,hc,rfl,?_⟩
  have key3:drvL (settled g D)=[blk D.p #[.slice (some ⟨D.bs,0,none⟩) D.safe.length D.safe.length,.map (some D.bm),.map (some D.bp),.bool D.dead,.int .i64 D.left,.bool D.cut] 151,
    rowP 208 64 (some D.bs) D.safe.length D.safe.length (flat (settleN g D.ws D.safe D.ws.length)),mapP D.bm [] D.clk,mapP D.bp D.sp D.clk2]:=by
   simp only[drvL,settled,settleN_len,List.map_nil,List.append_nil]
  rw[key3]
  refine T.dropAll (G:=D.ws.map WE.row) (hT7.swap ?_)
  refine(List.perm_append_comm (l₁:=[blk D.p #[.slice (some ⟨D.bs,0,none⟩) D.safe.length D.safe.length,.map (some D.bm),.map (some D.bp),.bool D.dead,.int .i64 D.left,.bool D.cut] 151,
    rowP 208 64 (some D.bs) D.safe.length D.safe.length (flat (settleN g D.ws D.safe D.ws.length)),mapP D.bm [] D.clk,mapP D.bp D.sp D.clk2]) (l₂:=D.ws.map WE.row++X)).trans ?_
  rw[List.append_assoc]
def flushG (D:DL):Int:=if D.dead then 40 else if offG D then 42 else 0
def flushed (D:DL):DL:=settled (fun _ m=>m) { D with left:=IntKind.i64.wrap (D.left-1) }
theorem DOk.left {D:DL}(h:DOk D) (n:Int) (c:Bool):DOk { D with left:=n,cut:=c }:=⟨h.s64,h.n1,h.w64,h.wk,h.wn,h.sv,h.sn,h.wb,h.wd⟩
theorem nodup_lt:∀(n:Nat) (l:List Nat),l.Nodup→(∀x∈l,x<n)→l.length≤n
 |0,[],_,_=>Nat.le_refl _
 |0,x::l,_,h=>absurd (h x List.mem_cons_self) (by omega)
 |n+1,l,hn,h=>by
  have h1:=nodup_lt n (l.filter (fun x=>x != n)) (hn.filter _) fun x hx=>by
   have h2:=List.mem_filter.1 hx
   have h3:=h x h2.1
   have h4:x≠n:=by simpa using h2.2
   omega
  have h5:=List.length_eq_countP_add_countP (l:=l) (fun x=>x != n)
  have h6:l.countP (fun a=>decide ¬((a != n)=true))≤1:=by
   have h7:=List.nodup_iff_count.1 hn n
   have:l.countP (fun a=>decide ¬((a != n)=true))=l.count n:=by
    unfold List.count
    congr 1
    funext x
    by_cases hx:x=n<;>simp[hx]
   omega
  rw[List.countP_eq_length_filter]at h5
  omega
theorem ws_few {D:DL}(h:DOk D):D.ws.length≤4096:=by
 have h1:(D.ws.map (·.k)).Nodup:=h.wn
 have h2:((D.ws.map (·.k)).map Int.toNat).Nodup:=by
  refine List.pairwise_map.2 (List.Pairwise.imp_of_mem ?_ h1)
  intro a b ha hb hab
  obtain⟨x,hx,rfl⟩:=List.mem_map.1 ha
  obtain⟨y,hy,rfl⟩:=List.mem_map.1 hb
  have:=(h.wk x hx).1
  have:=(h.wk y hy).1
  omega
 have h3:=nodup_lt 4096 _ h2 fun i hi=>by
  obtain⟨k,hk,rfl⟩:=List.mem_map.1 hi
  obtain⟨x,hx,rfl⟩:=List.mem_map.1 hk
  have h4:=h.wk x hx
  have h5:=h.n1
  omega
 simpa using h3
theorem flush_spec (D:DL){F:List Nat}{w0 w:World}{X:List A}(hT:T F w0 w (X++drvL D)) (hD:DOk D) (hL:∀e∈D.ws,e.l.length≤1000000):
  Calls Tp 62 #[.pointer (some ⟨D.p,0,none⟩)] w fun e w'=>∃v,e=.returned v∧v=.int .i64 (flushG D)∧(flushG D=0→T F w0 w' (X++drvL (flushed D)))∧(flushG D≠0→T F w0 w' (X++drvL D)):=by
 refine drive_Drive_Flush_calls ?_
 unfold drive_Drive_Flush
 have h1:T F w0 w (drvL D++X):=hT.swap List.perm_append_comm
 refine⟨_,rfl,_,h1.ldA (by repeat constructor) rfl,fun hd=>?_,fun hd=>?_⟩
 ·have:flushG D=40:=by simp[flushG,hd]
  exact⟨by rw[this],fun h=>by omega,fun _=>hT⟩
 ·refine Ret.useT hT (off_spec D _ (T.sub hT)) fun w1 hT1=>⟨_,rfl,fun ho=>?_,fun ho=>?_⟩
  ·have:flushG D=42:=by simp[flushG,hd,ho]
   exact⟨by rw[this],fun h=>by omega,fun _=>hT1⟩
  ·have hz:flushG D=0:=by simp[flushG,hd,ho]
   have h2:T F w0 w1 (drvL D++X):=hT1.swap List.perm_append_comm
   refine⟨_,rfl,_,h2.ldA (by repeat constructor) rfl,_,rfl,?_⟩
   refine St.tA h2 .head (by simp) (by rfl) rfl fun w3 h3=>?_
   have h4:T F w0 w3 (drvL { D with left:=IntKind.i64.wrap (D.left-1) }++X):=h3
   have hok:DOk { D with left:=IntKind.i64.wrap (D.left-1) }:=hD.left _ D.cut
   refine(settle_spec { D with left:=IntKind.i64.wrap (D.left-1) } _ (fun _ m=>m) (h4.swap List.perm_append_comm) hok (fun _ _=>Nat.le_refl _) hL (ws_few hok) fun j m w5 hT5 hj hm=>?_).mono fun e w' ⟨v,he,hv,ht⟩=>⟨hv▸he,by rw[hz],fun _=>ht,fun h=>absurd hz h⟩
   refine CallF.func (by kernel_rfl) ?_
   exact ret_of (drive_Drive_Flush_1_calls ⟨rfl,.refl _⟩)
end Go.Proofs.YtkknkmplmilihaaGreat
end
section
namespace Go.Proofs.YtkknkmplmilihaaGreat
open Go.Sh Go.Maps Go.RowKit
theorem entry_t {P:Program}{w:World}{r bm since clock:Nat}{seen:Array Nat}{es:Array MapEntry}{e:MapEntry}(hr:w.heap[r]?=some (.mapIter (some bm) since (seen.push e.born) clock)) (hb:w.heap[bm]?=some (.map es clock)) (he:e∈es.toList) (hn:(es.toList.map (·.born)).Nodup):
  (Instr.entry (.pointer (some ⟨r,0,none⟩))).run P w=.ok (.tuple #[e.key,e.val]) w:=by
 have hf:es.find? (·.born==e.born)=some e:=by rw[←Array.find?_toList]; exact find_born e es.toList hn he
 simp only[Instr.entry,getObj,Sem.run_bind,Sem.run,hr,hb,Result.andThen,Array.back?_push,bne_self_eq_false,Bool.false_eq_true,if_false,hf]
 rfl
end Go.Proofs.YtkknkmplmilihaaGreat
end
section
namespace Go.Proofs.YtkknkmplmilihaaGreat
open Go.Sh Go.Maps
structure AD where
 safe:List ByteArray
 pend:Nat→List ByteArray
 spoilt:Nat→Bool
 dead:Bool
 power:Option Nat
def AD.off (a:AD):Bool:=a.power==some 0
def AD.may (a:AD) (i:Int):Int:=if a.dead then 40 else if a.off then 42 else if i<0∨i≥(a.safe.length:Int) then 70 else 0
def AD.top (a:AD) (i:Nat):ByteArray:=match (a.pend i).getLast? with
 |some s=>s
 |none=>a.safe.getD i noB
def AD.read (a:AD) (i:Int):ByteArray×Int:=if a.may i≠0 then (noB,a.may i) else if a.spoilt i.toNat then (noB,41) else (a.top i.toNat,0)
def AD.put (a:AD) (i:Int) (s:ByteArray):Int:=if a.may i≠0 then a.may i else if s.size≠64 then 1 else 0
def AD.write (a:AD) (i:Int) (s:ByteArray):AD:=if a.put i s≠0 then a else { a with pend:=fun j=>if j=i.toNat then a.pend j++[s] else a.pend j,spoilt:=fun j=>if j=i.toNat then false else a.spoilt j,power:=a.power.map (·-1) }
def keptFrom (g:Nat→Nat→Nat) (pend:Nat→List ByteArray):Nat→Nat→List ByteArray→List ByteArray
 |_,_,[]=>[]
 |i,k,s::l=>if pend i=[] then s::keptFrom g pend (i+1) k l else (if 0<g k (pend i).length then (pend i).getD (g k (pend i).length-1) noB else s)::keptFrom g pend (i+1) (k+1) l
def AD.settle (a:AD) (g:Nat→Nat→Nat):AD:={ a with safe:=keptFrom g a.pend 0 0 a.safe,pend:=fun _=>[] }
def AD.flush1 (a:AD):Int:=if a.dead then 40 else if a.off then 42 else 0
def AD.flush (a:AD):AD:=if a.flush1≠0 then a else { a with power:=a.power.map (·-1) }.settle fun _ m=>m
def AD.new (n:Nat):AD:=⟨List.replicate n zeroSec,fun _=>[],fun _=>false,false,none⟩
def AD.Few (a:AD) (N:Nat):Prop:=∀i,(a.pend i).length≤N
structure Abs (D:DL) (a:AD):Prop where
 ok:DOk D
 safe:D.safe=a.safe
 pend:∀i:Nat,pendW D.ws i=a.pend i
 sp:∀i:Nat,(getK i D.sp).isSome=a.spoilt i
 dead:D.dead=a.dead
 power:match a.power with
  |none=>D.cut=false
  |some n=>D.cut=true∧D.left=n∧n≤9223372036854775807
theorem Abs.off {D:DL}{a:AD}(h:Abs D a):offG D=a.off:=by
 have hp:=h.power
 unfold offG AD.off
 cases ha:a.power with
 |none=>rw[ha]at hp; simp only at hp; simp[hp]
 |some n=>
  rw[ha]at hp
  simp only at hp
  rw[hp.1,hp.2.1]
  by_cases hn:n=0
  ·subst hn; rfl
  ·have h1:((n:Int)==0)=false:=by simpa using hn
   rw[h1]; simp[hn]
theorem Abs.may {D:DL}{a:AD}(h:Abs D a) (i:Int):mayG D i=a.may i:=by
 unfold mayG AD.may
 rw[h.dead,h.off,h.safe]
theorem Abs.put {D:DL}{a:AD}(h:Abs D a) (i:Int) (s:ByteArray):putG D i s=a.put i s:=by
 unfold putG AD.put
 rw[h.may]
theorem AD.may_zero {a:AD}{i:Int}(h:a.may i=0):0≤i∧i<(a.safe.length:Int):=by
 unfold AD.may at h
 split at h
 ·cases h
 split at h
 ·cases h
 split at h
 ·cases h
 ·omega
theorem Abs.read {D:DL}{a:AD}(h:Abs D a) (i:Int):readG D i=a.read i:=by
 unfold readG AD.read
 rw[h.may]
 by_cases hm:a.may i=0
 ·have hi:=AD.may_zero hm
  have ei:((i.toNat:Nat):Int)=i:=by omega
  have h1:=h.sp i.toNat
  have h2:=h.pend i.toNat
  rw[ei]at h1 h2
  simp only[hm,ne_eq,not_true,if_false,spoiltG,h1]
  split
  ·rfl
  ·congr 1
   unfold topG AD.top
   rw[←h2,h.safe]
   unfold pendW wfind
   cases hf:D.ws.find? fun e=>e.k==i with
   |none=>rfl
   |some e=>
    simp only
    have hne:=(h.ok.wk e (List.mem_of_find?_eq_some hf)).2.2
    rw[List.getLastD_eq_getLast?,List.getLast?_eq_some_getLast hne]; rfl
 ·simp only[hm,ne_eq,not_false_eq_true,if_true]
def Dr (p:Nat) (a:AD) (F:List Nat) (w0 w:World) (X:List A):Prop:=∃D,D.p=p∧Abs D a∧T F w0 w (X++drvL D)
theorem AD.Few.row {a:AD}{N:Nat}(h:a.Few N){D:DL}(hA:Abs D a):∀e∈D.ws,e.l.length≤N:=by
 intro e he
 have h1:=(hA.ok.wk e he)
 have h2:=hA.pend e.k.toNat
 have h3:=h e.k.toNat
 rw[←h2,show((e.k.toNat:Nat):Int)=e.k by omega]at h3
 unfold pendW at h3
 rw[find_of_mem hA.ok.wn he]at h3
 exact h3
theorem getK_none_of {i:Int}:∀{l:List Ent},(∀x∈l,x.1≠i)→getK i l=none
 |[],_=>rfl
 |x::l,h=>by
  simp only[getK,if_neg (h x List.mem_cons_self)]
  exact getK_none_of fun y hy=>h y (List.mem_cons_of_mem _ hy)
theorem getK_eraseK {i j:Int}:∀{l:List Ent},(l.map (·.1)).Nodup→getK j (eraseK i l)=if j=i then none else getK j l
 |[],_=>by simp[eraseK,getK]
 |x::l,h=>by
  simp only[List.map_cons,List.nodup_cons]at h
  by_cases hx:x.1=i
  ·simp only[eraseK,if_pos hx,getK]
   by_cases hj:j=i
   ·subst hj
    rw[if_pos rfl]
    exact getK_none_of fun y hy e=>h.1 (by rw[hx,←e]; exact List.mem_map_of_mem hy)
   ·rw[if_neg hj,if_neg (fun e=>hj (e.symm.trans hx))]
  ·simp only[eraseK,if_neg hx,getK]
   by_cases hxj:x.1=j
   ·rw[if_pos hxj,if_neg (fun e=>hx (hxj.trans e)),if_pos hxj]
   ·rw[if_neg hxj,if_neg hxj]
    exact getK_eraseK h.2
theorem mem_eraseK {i:Int}:∀{l:List Ent}{x:Ent},x∈eraseK i l→x∈l
 |[],_,h=>h
 |y::l,x,h=>by
  simp only[eraseK]at h
  split at h
  ·exact List.mem_cons_of_mem _ h
  ·rcases List.mem_cons.1 h with rfl|h
   ·exact List.mem_cons_self
   ·exact List.mem_cons_of_mem _ (mem_eraseK h)
theorem nodup_eraseK {i:Int}:∀{l:List Ent},(l.map (·.1)).Nodup→((eraseK i l).map (·.1)).Nodup
 |[],h=>h
 |y::l,h=>by
  simp only[List.map_cons,List.nodup_cons]at h
  simp only[eraseK]
  split
  ·exact h.2
  ·simp only[List.map_cons,List.nodup_cons]
   refine⟨fun hm=>?_,nodup_eraseK h.2⟩
   obtain⟨z,hz,e⟩:=List.mem_map.1 hm
   exact h.1 (e▸List.mem_map_of_mem (mem_eraseK hz))
theorem wr_ok {D:DL}(h:DOk D){i:Int}{s:ByteArray}{ws':List WE}(hi:0≤i∧i<(D.safe.length:Int)) (hs:s.size=64) (hw:Wr i s D.clk D.ws ws'):
  (∀e∈ws',∀s∈e.l,s.size=64)∧(∀e∈ws',0≤e.k∧e.k<(D.safe.length:Int)∧e.l≠[])∧(ws'.map (·.k)).Nodup∧(∀e∈ws',e.born<clockK i (D.ws.map WE.ent) D.clk)∧(ws'.map (·.born)).Nodup:=by
 have hwb:=h.wb
 have hwd:=h.wd
 have hwn:=h.wn
 have hwk:=h.wk
 have hw64:=h.w64
 generalize hws:D.ws=ws at *
 generalize D.clk=clk at *
 cases hw with
 |new g cap hf=>
  have hg:getK i (ws.map WE.ent)=none:=by rw[getK_ws]; rw[hf]; rfl
  have hni:∀e∈ws,e.k≠i:=fun e he hk=>by
   have:=List.find?_eq_none.1 hf e he
   simp[hk]at this
  have hc:clockK i (ws.map WE.ent) clk=clk+1:=by simp[clockK,hg]
  rw[hc]
  refine⟨fun e he=>?_,fun e he=>?_,?_,fun e he=>?_,?_⟩
  ·rcases List.mem_append.1 he with he|he
   ·exact hw64 e he
   ·obtain rfl:=List.mem_singleton.1 he
    intro x hx
    obtain rfl:x=s:=by simpa using hx
    exact hs
  ·rcases List.mem_append.1 he with he|he
   ·exact hwk e he
   ·obtain rfl:=List.mem_singleton.1 he
    exact⟨hi.1,hi.2,by simp⟩
  ·rw[List.map_append,List.nodup_append]
   refine⟨hwn,by simp,fun a ha b hb e=>?_⟩
   obtain⟨x,hx,rfl⟩:=List.mem_map.1 ha
   obtain rfl:b=i:=by simpa using hb
   exact hni x hx e
  ·rcases List.mem_append.1 he with he|he
   ·have:=hwb e he; omega
   ·obtain rfl:=List.mem_singleton.1 he
    show clk<clk+1
    omega
  ·rw[List.map_append,List.nodup_append]
   refine⟨hwd,by simp,fun a ha b hb e=>?_⟩
   obtain⟨x,hx,rfl⟩:=List.mem_map.1 ha
   obtain rfl:b=clk:=by simpa using hb
   have:=hwb x hx
   omega
 |@old a b e g cap hk ha=>
  have hmem:e∈a++e::b:=by simp
  have hge:(getK i ((a++e::b).map WE.ent)).isSome=true:=by
   rw[getK_ws,Option.isSome_map,List.find?_isSome]
   exact⟨e,hmem,by simpa using hk⟩
  have hc:clockK i ((a++e::b).map WE.ent) clk=clk:=by simp only[clockK,hge,if_true]
  rw[hc]
  have cases':∀x,x∈a++(⟨i,g,cap,e.born,e.l++[s]⟩:WE)::b→x∈a++e::b∨x=⟨i,g,cap,e.born,e.l++[s]⟩:=by
   intro x hx
   rcases List.mem_append.1 hx with hx|hx
   ·exact .inl (List.mem_append_left _ hx)
   ·rcases List.mem_cons.1 hx with rfl|hx
    ·exact .inr rfl
    ·exact .inl (List.mem_append_right _ (List.mem_cons_of_mem _ hx))
  refine⟨fun x hx=>?_,fun x hx=>?_,?_,fun x hx=>?_,?_⟩
  ·rcases cases' x hx with hx|rfl
   ·exact hw64 x hx
   ·intro y hy
    rcases List.mem_append.1 hy with hy|hy
    ·exact hw64 e hmem y hy
    ·obtain rfl:=List.mem_singleton.1 hy; exact hs
  ·rcases cases' x hx with hx|rfl
   ·exact hwk x hx
   ·exact⟨hi.1,hi.2,by simp⟩
  ·have:(a++(⟨i,g,cap,e.born,e.l++[s]⟩:WE)::b).map (·.k)=(a++e::b).map (·.k):=by simp[hk]
   rw[this]; exact hwn
  ·rcases cases' x hx with hx|rfl
   ·exact hwb x hx
   ·exact hwb e hmem
  ·have:(a++(⟨i,g,cap,e.born,e.l++[s]⟩:WE)::b).map (·.born)=(a++e::b).map (·.born):=by simp
   rw[this]; exact hwd
theorem AD.put_zero {a:AD}{i:Int}{s:ByteArray}(h:a.put i s=0):a.may i=0∧s.size=64:=by
 unfold AD.put at h
 split at h
 ·rename_i h1; exact absurd h h1
 ·split at h
  ·cases h
  ·rename_i h1 h2; exact⟨by simpa using h1,by simpa using h2⟩
theorem AD.may_on {a:AD}{i:Int}(h:a.may i=0):a.off=false∧a.dead=false:=by
 unfold AD.may at h
 split at h
 ·cases h
 split at h
 ·cases h
 ·rename_i h1 h2; exact⟨by simpa using h2,by simpa using h1⟩
theorem abs_left {D:DL}{a:AD}(h:Abs D a) (ho:a.off=false):match (a.power.map (fun n:Nat=>n-1):Option Nat) with
  |none=>D.cut=false
  |some n=>D.cut=true∧IntKind.i64.wrap (D.left-1)=(n:Int)∧n≤9223372036854775807:=by
 have hp:=h.power
 cases ha:a.power with
 |none=>rw[ha]at hp; exact hp
 |some n=>
  rw[ha]at hp
  have hn:n≠0:=by
   intro e
   subst e
   unfold AD.off at ho
   rw[ha]at ho
   simp at ho
  simp only[Option.map_some]at hp⊢
  refine⟨hp.1,?_,by omega⟩
  rw[hp.2.1,wrap64 _ (by omega) (by omega)]
  omega
theorem Abs.wrote {D D':DL}{a:AD}(h:Abs D a){i:Int}{s:ByteArray}(hz:a.put i s=0) (hw:Wrote D i s D'):Abs D' (a.write i s):=by
 obtain⟨hm,hs⟩:=AD.put_zero hz
 have hi:=AD.may_zero hm
 rw[←h.safe]at hi
 obtain⟨k1,k2,k3,k4,k5⟩:=wr_ok h.ok hi hs hw.ws
 obtain⟨e1,e2,e3,e4,e5,e6,e7⟩:=hw.same
 have ha:a.write i s={ a with pend:=fun j=>if j=i.toNat then a.pend j++[s] else a.pend j,spoilt:=fun j=>if j=i.toNat then false else a.spoilt j,power:=a.power.map (·-1) }:=by unfold AD.write; rw[if_neg (by simpa using hz)]
 rw[ha]
 refine⟨⟨by rw[e5]; exact h.ok.s64,by rw[e5]; exact h.ok.n1,k1,by rw[e5]; exact k2,k3,fun x hx=>h.ok.sv x (mem_eraseK (hw.sp▸hx)),by rw[hw.sp]; exact nodup_eraseK h.ok.sn,by rw[hw.clk]; exact k4,k5⟩,by rw[e5]; exact h.safe,fun j=>?_,fun j=>?_,by rw[e6]; exact h.dead,?_⟩
 ·rw[wr_pend hw.ws]
  by_cases hj:j=i.toNat
  ·have hji:(j:Int)=i:=by omega
   have:=h.pend j
   rw[hji]at this
   simp only[hj,if_true]
   rw[if_pos (by omega),this,hj]
  ·rw[if_neg (by omega),h.pend]
   simp only[hj,if_false]
 ·rw[hw.sp,getK_eraseK h.ok.sn]
  by_cases hj:j=i.toNat
  ·rw[if_pos (by omega)]; simp[hj]
  ·rw[if_neg (by omega),h.sp]; simp[hj]
 ·have:=abs_left h (AD.may_on hm).1
  rw[e7,hw.left]
  exact this
theorem write_a {p:Nat}{a:AD}{F:List Nat}{w0 w:World}{X:List A}(h:Dr p a F w0 w X) (hF:a.Few 1000000) (i:Int) (s:ByteArray):
  Calls Tp 66 #[.pointer (some ⟨p,0,none⟩),.int .i64 i,.string s] w fun e w'=>e=.returned (.int .i64 (a.put i s))∧Dr p (a.write i s) F w0 w' X:=by
 obtain⟨D,rfl,hA,hT⟩:=h
 refine(write_spec D i s hT hA.ok (hF.row hA)).mono fun e w' ⟨v,he,hv,D',h1,h2,hT'⟩=>⟨by rw[he,hv,hA.put],?_⟩
 by_cases hz:putG D i s=0
 ·refine⟨D',(h1 hz).same.1,hA.wrote (by rw[←hA.put]; exact hz) (h1 hz),hT'⟩
 ·rw[h2 hz]at hT'
  refine⟨D,rfl,?_,hT'⟩
  unfold AD.write
  rw[if_pos (by rw[←hA.put]; exact hz)]
  exact hA
theorem read_a {p:Nat}{a:AD}{F:List Nat}{w0 w:World}{X:List A}(h:Dr p a F w0 w X) (hF:a.Few 1000000) (i:Int):
  Ret Tp 78 #[.pointer (some ⟨p,0,none⟩),.int .i64 i] w (.tuple #[.string (a.read i).1,.int .i64 (a.read i).2]):=by
 obtain⟨D,rfl,hA,hT⟩:=h
 have:=read_spec D i w (T.sub hT) hA.ok fun e he=>Nat.le_trans (hF.row hA e he) (by decide)
 rwa [hA.read]at this
theorem dead_a {p:Nat}{a:AD}{F:List Nat}{w0 w:World}{X:List A}(h:Dr p a F w0 w X):Ret Tp 123 #[.pointer (some ⟨p,0,none⟩)] w (.bool a.dead):=by
 obtain⟨D,rfl,hA,hT⟩:=h
 have:=dead_spec D w (T.sub hT)
 rwa [hA.dead]at this
theorem Dr.quiet {p:Nat}{a:AD}{F:List Nat}{w0 w w':World}{X:List A}(h:Dr p a F w0 w X) (he:Ext w w'):Dr p a F w0 w' X:=by
 obtain⟨D,h1,h2,h3⟩:=h
 exact⟨D,h1,h2,h3.quiet he⟩
theorem Abs.keys {D:DL}{a:AD}(h:Abs D a):keysW D.ws=((List.range a.safe.length).filter fun i=>!(a.pend i).isEmpty).map Int.ofNat:=by
 have tr:∀a b c:Int,leI a b=true→leI b c=true→leI a c=true:=fun a b c h1 h2=>by simp only[leI,decide_eq_true_eq]at *; exact Int.le_trans h1 h2
 have tot:∀a b:Int,(leI a b||leI b a)=true:=fun a b=>by simp only[leI,Bool.or_eq_true,decide_eq_true_eq]; exact Int.le_total a b
 have hlt:(((List.range a.safe.length).filter fun i=>!(a.pend i).isEmpty).map Int.ofNat).Pairwise (fun x y=>x<y):=by
  refine List.pairwise_map.2 ((List.pairwise_lt_range.filter _).imp fun h=>?_)
  exact Int.ofNat_lt.2 h
 refine List.Perm.eq_of_pairwise (le:=fun a b=>leI a b=true) (fun a b _ _ h1 h2=>?_) (List.pairwise_mergeSort tr tot _) (hlt.imp fun h=>by simp only[leI,decide_eq_true_eq]; omega) ?_
 ·simp only[leI,decide_eq_true_eq]at h1 h2
  exact Int.le_antisymm h1 h2
 ·refine(List.mergeSort_perm _ _).trans ((List.perm_ext_iff_of_nodup h.ok.wn (hlt.imp fun h=>by omega)).2 fun i=>?_)
  simp only[List.mem_map,List.mem_filter,List.mem_range]
  constructor
  ·rintro⟨e,he,rfl⟩
   have h1:=h.ok.wk e he
   have h2:=h.pend e.k.toNat
   rw[show((e.k.toNat:Nat):Int)=e.k by omega]at h2
   unfold pendW at h2
   rw[find_of_mem h.ok.wn he]at h2
   refine⟨e.k.toNat,⟨by rw[←h.safe]; omega,?_⟩,by show((e.k.toNat:Nat):Int)=e.k; omega⟩
   rw[←h2]
   simpa using h1.2.2
  ·rintro⟨j,⟨hj,hp⟩,rfl⟩
   have h2:=h.pend j
   unfold pendW at h2
   cases hf:D.ws.find? (fun e=>e.k==(j:Int)) with
   |none=>rw[hf]at h2; rw[←h2]at hp; simp at hp
   |some e=>exact⟨e,List.mem_of_find?_eq_some hf,by have:=List.find?_some hf; simpa using this⟩
def settleL (g:Nat→Nat→Nat) (pend:Nat→List ByteArray):List Nat→Nat→List ByteArray→List ByteArray
 |[],_,s=>s
 |i::ks,k,s=>settleL g pend ks (k+1) (if 0<g k (pend i).length then s.set i ((pend i).getD (g k (pend i).length-1) noB) else s)
theorem settleL_snoc (g:Nat→Nat→Nat) (pend:Nat→List ByteArray) (i:Nat):∀(ks:List Nat) (k:Nat) (s:List ByteArray),
  settleL g pend (ks++[i]) k s=if 0<g (k+ks.length) (pend i).length then (settleL g pend ks k s).set i ((pend i).getD (g (k+ks.length) (pend i).length-1) noB) else settleL g pend ks k s
 |[],k,s=>rfl
 |x::ks,k,s=>by
  simp only[List.cons_append,settleL,settleL_snoc g pend i ks,List.length_cons]
  rw[show k+1+ks.length=k+(ks.length+1) by omega]
theorem settleN_L (g:Nat→Nat→Nat){D:DL}{a:AD}(h:Abs D a) (safe:List ByteArray):∀j,settleN g D.ws safe j=settleL g a.pend (((List.range a.safe.length).filter fun i=>!(a.pend i).isEmpty).take j) 0 safe
 |0=>rfl
 |j+1=>by
  unfold settleN
  rw[h.keys,settleN_L g h safe j,List.take_add_one,List.getElem?_map]
  cases hi:((List.range a.safe.length).filter fun i=>!(a.pend i).isEmpty)[j]? with
  |none=>simp
  |some i=>
   simp only[Option.map_some,Option.toList_some,settleL_snoc]
   have hl:(((List.range a.safe.length).filter fun i=>!(a.pend i).isEmpty).take j).length=j:=by
    rw[List.length_take]; have:=(List.getElem?_eq_some_iff.1 hi).1; omega
   rw[hl,Nat.zero_add]
   have hp:=h.pend i
   show(if 0<g j (pendW D.ws ((i:Nat):Int)).length then _ else _)=_
   rw[show Int.ofNat i=((i:Nat):Int) from rfl,hp]
   rfl
theorem settleL_kept (g:Nat→Nat→Nat) (pend:Nat→List ByteArray):∀(l pre:List ByteArray) (i0 k:Nat),pre.length=i0→settleL g pend ((List.range' i0 l.length).filter fun i=>!(pend i).isEmpty) k (pre++l)=pre++keptFrom g pend i0 k l
 |[],pre,i0,k,h=>by simp[settleL,keptFrom]
 |s::l,pre,i0,k,h=>by
  simp only[List.length_cons,List.range'_succ,List.filter_cons,keptFrom]
  by_cases hp:pend i0=[]
  ·have h1:=settleL_kept g pend l (pre++[s]) (i0+1) k (by simp[h])
   simp only[List.append_assoc,List.singleton_append]at h1
   simp only[hp,List.isEmpty_nil,Bool.not_true,Bool.false_eq_true,if_false,if_true]
   exact h1
  ·have hne:(!(pend i0).isEmpty)=true:=by simpa using hp
   simp only[hne,if_true,hp,if_false,settleL]
   by_cases hg:0<g k (pend i0).length
   ·have h1:=settleL_kept g pend l (pre++[(pend i0).getD (g k (pend i0).length-1) noB]) (i0+1) (k+1) (by simp[h])
    simp only[List.append_assoc,List.singleton_append]at h1
    simp only[hg,if_true]
    rw[List.set_append_right _ _ (by omega),h,Nat.sub_self,List.set_cons_zero]
    exact h1
   ·have h1:=settleL_kept g pend l (pre++[s]) (i0+1) (k+1) (by simp[h])
    simp only[List.append_assoc,List.singleton_append]at h1
    simp only[hg,if_false]
    exact h1
theorem Abs.settled {D:DL}{a:AD}(h:Abs D a){g:Nat→Nat→Nat}(hg:∀j m,g j m≤m):Abs (Go.Proofs.YtkknkmplmilihaaGreat.settled g D) (a.settle g):=by
 have h1:settleN g D.ws D.safe D.ws.length=keptFrom g a.pend 0 0 a.safe:=by
  rw[settleN_L g h,List.take_of_length_le]
  ·have:=settleL_kept g a.pend a.safe [] 0 0 rfl
   rw[List.range_eq_range',h.safe]
   simpa using this
  ·have:=keysW_len D.ws
   rw[h.keys,List.length_map]at this
   omega
 refine⟨⟨settleN_64 g D.ws D.safe h.ok.s64 h.ok.w64 hg _,(by show 1≤(settleN g D.ws D.safe D.ws.length).length∧(settleN g D.ws D.safe D.ws.length).length≤4096; rw[settleN_len]; exact h.ok.n1),fun e he=>(by cases he),fun e he=>(by cases he),List.nodup_nil,h.ok.sv,h.ok.sn,fun e he=>(by cases he),List.nodup_nil⟩,h1,fun i=>rfl,h.sp,h.dead,h.power⟩
theorem flush_a {p:Nat}{a:AD}{F:List Nat}{w0 w:World}{X:List A}(h:Dr p a F w0 w X) (hF:a.Few 1000000):
  Calls Tp 62 #[.pointer (some ⟨p,0,none⟩)] w fun e w'=>e=.returned (.int .i64 a.flush1)∧Dr p a.flush F w0 w' X:=by
 obtain⟨D,rfl,hA,hT⟩:=h
 have hz:flushG D=a.flush1:=by unfold flushG AD.flush1; rw[hA.dead,hA.off]
 refine(flush_spec D hT hA.ok (hF.row hA)).mono fun e w' ⟨v,he,hv,h0,h1⟩=>⟨by rw[he,hv,hz],?_⟩
 by_cases hf:flushG D=0
 ·refine⟨flushed D,rfl,?_,h0 hf⟩
  have ho:a.off=false:=by
   rw[hz]at hf
   unfold AD.flush1 at hf
   split at hf
   ·cases hf
   split at hf
   ·cases hf
   ·rename_i h; simpa using h
  have h2:Abs { D with left:=IntKind.i64.wrap (D.left-1) } { a with power:=a.power.map (·-1) }:=⟨hA.ok.left _ _,hA.safe,hA.pend,hA.sp,hA.dead,abs_left hA ho⟩
  have h3:=h2.settled (g:=fun _ m=>m) (fun _ _=>Nat.le_refl _)
  unfold AD.flush
  rw[if_neg (by rw[←hz]; simpa using hf)]
  exact h3
 ·refine⟨D,rfl,?_,h1 hf⟩
  unfold AD.flush
  rw[if_pos (by rw[←hz]; exact hf)]
  exact hA
theorem new_a (n:Int){F:List Nat}{w0 w:World}{X:List A}(hT:T F w0 w X) (hn:1≤n∧n≤4096):
  Calls Tp 38 #[.int .i64 n] w fun e w'=>∃p,e=.returned (.pointer (some ⟨p,0,none⟩))∧Dr p (AD.new n.toNat) F w0 w' X:=by
 refine(new_spec n hT hn).mono fun e w' ⟨v,he,D,hv,hN,hT'⟩=>⟨D.p,by rw[he,hv],D,rfl,?_,hT'⟩
 obtain⟨h1,h2,h3,h4,h5,h6⟩:=hN
 refine⟨⟨fun s hs=>?_,(by rw[h1,List.length_replicate]; omega),(by rw[h2]; exact fun e he=>(by cases he)),(by rw[h2]; exact fun e he=>(by cases he)),(by rw[h2]; exact List.nodup_nil),(by rw[h3]; exact fun e he=>(by cases he)),(by rw[h3]; exact List.nodup_nil),(by rw[h2]; exact fun e he=>(by cases he)),(by rw[h2]; exact List.nodup_nil)⟩,h1,fun i=>(by rw[h2]; rfl),fun i=>(by rw[h3]; rfl),h4,h6⟩
 rw[h1]at hs
 rw[List.eq_of_mem_replicate hs]; rfl
def fullB (s:ByteArray):ByteArray:=(s++zeroSec).extract 0 64
theorem fullB_size (s:ByteArray):(fullB s).size=64:=by
 unfold fullB
 rw[ByteArray.size_extract,ByteArray.size_append,zeroSec_size]
 omega
structure AD.On (a:AD) (n:Nat):Prop where
 dead:a.dead=false
 power:a.power=none
 len:a.safe.length=n
theorem AD.On.may {a:AD}{n:Nat}(h:a.On n){i:Int}(hi:0≤i∧i<(n:Int)):a.may i=0:=by
 unfold AD.may AD.off
 rw[h.dead,h.power,h.len]
 rw[if_neg (by simp),if_neg (by simp),if_neg (by omega)]
theorem AD.On.put {a:AD}{n:Nat}(h:a.On n){i:Int}(hi:0≤i∧i<(n:Int)){s:ByteArray}(hs:s.size=64):a.put i s=0:=by
 unfold AD.put
 rw[h.may hi]
 simp[hs]
theorem AD.On.flush1 {a:AD}{n:Nat}(h:a.On n):a.flush1=0:=by
 unfold AD.flush1 AD.off
 rw[h.dead,h.power]
 simp
theorem AD.On.write {a:AD}{n:Nat}(h:a.On n) (i:Int) (s:ByteArray):(a.write i s).On n:=by
 unfold AD.write
 split
 ·exact h
 ·exact⟨h.dead,by rw[h.power]; rfl,h.len⟩
theorem keptFrom_len (g:Nat→Nat→Nat) (pend:Nat→List ByteArray):∀(l:List ByteArray) (i k:Nat),(keptFrom g pend i k l).length=l.length
 |[],_,_=>rfl
 |s::l,i,k=>by
  simp only[keptFrom]
  split<;>simp[keptFrom_len g pend l]
theorem AD.On.flush {a:AD}{n:Nat}(h:a.On n):a.flush.On n:=by
 unfold AD.flush
 split
 ·exact h
 ·exact⟨h.dead,by simp[AD.settle,h.power],by simp[AD.settle,keptFrom_len,h.len]⟩
theorem AD.On.new (n:Nat):(AD.new n).On n:=⟨rfl,rfl,List.length_replicate⟩
theorem AD.write_of {a:AD}{i:Int}{s:ByteArray}(h:a.put i s=0):a.write i s={ a with pend:=fun j=>if j=i.toNat then a.pend j++[s] else a.pend j,spoilt:=fun j=>if j=i.toNat then false else a.spoilt j,power:=a.power.map (·-1) }:=by
 unfold AD.write; rw[if_neg (by simpa using h)]
theorem AD.flush_of {a:AD}(h:a.flush1=0):a.flush={ a with power:=a.power.map (·-1) }.settle fun _ m=>m:=by
 unfold AD.flush; rw[if_neg (by simpa using h)]
theorem AD.read_of {a:AD}{i:Int}(h:a.may i=0):a.read i=if a.spoilt i.toNat then (noB,41) else (a.top i.toNat,0):=by
 unfold AD.read; rw[if_neg (by simpa using h)]
theorem keptFrom_get (g:Nat→Nat→Nat) (pend:Nat→List ByteArray) (x:ByteArray):∀(l:List ByteArray) (i k j:Nat),j<l.length→∃k',(keptFrom g pend i k l).getD j x=if pend (i+j)=[] then l.getD j x else if 0<g k' (pend (i+j)).length then (pend (i+j)).getD (g k' (pend (i+j)).length-1) noB else l.getD j x
 |s::l,i,k,0,_=>by
  refine⟨k,?_⟩
  simp only[keptFrom,Nat.add_zero]
  split<;>simp
 |s::l,i,k,j+1,h=>by
  simp only[List.length_cons]at h
  simp only[keptFrom]
  by_cases hp:pend i=[]
  ·obtain⟨k',hk⟩:=keptFrom_get g pend x l (i+1) k j (by omega)
   refine⟨k',?_⟩
   rw[if_pos hp,show i+(j+1)=i+1+j by omega]
   simpa using hk
  ·obtain⟨k',hk⟩:=keptFrom_get g pend x l (i+1) (k+1) j (by omega)
   refine⟨k',?_⟩
   rw[if_neg hp,show i+(j+1)=i+1+j by omega]
   simpa using hk
theorem AD.flush_safe {a:AD}(h:a.flush1=0){j:Nat}(hj:j<a.safe.length):a.flush.safe.getD j noB=a.top j∧a.flush.pend j=[]∧a.flush.spoilt j=a.spoilt j:=by
 rw[AD.flush_of h]
 refine⟨?_,rfl,rfl⟩
 obtain⟨k',hk⟩:=keptFrom_get (fun _ m=>m) a.pend noB a.safe 0 0 j hj
 show(keptFrom (fun _ m=>m) a.pend 0 0 a.safe).getD j noB=_
 rw[hk,Nat.zero_add]
 unfold AD.top
 by_cases hp:a.pend j=[]
 ·rw[if_pos hp,hp]; rfl
 ·have hl:0<(a.pend j).length:=List.length_pos_iff.2 hp
  rw[if_neg hp,if_pos hl,List.getLast?_eq_some_getLast hp,List.getD_eq_getElem?_getD,List.getElem?_eq_getElem (by omega),←List.getLast_eq_getElem hp]
  rfl
theorem AD.top_none {a:AD}{j:Nat}(h:a.pend j=[]):a.top j=a.safe.getD j noB:=by unfold AD.top; rw[h]; rfl
theorem AD.write_top {a:AD}{i:Int}{s:ByteArray}(h:a.put i s=0) (j:Nat):(a.write i s).top j=if j=i.toNat then s else a.top j:=by
 rw[AD.write_of h]
 unfold AD.top
 by_cases hj:j=i.toNat
 ·simp[hj]
 ·simp[hj]
theorem few_new (n N:Nat):(AD.new n).Few N:=fun _=>Nat.zero_le _
theorem AD.Few.write {a:AD}{N:Nat}(h:a.Few N) (i:Int) (s:ByteArray):(a.write i s).Few (N+1):=by
 intro j
 have:=h j
 unfold AD.write
 split
 ·omega
 ·simp only
  split
  ·simp; omega
  ·omega
theorem AD.Few.flush {a:AD}{N:Nat}(h:a.Few N):a.flush.Few N:=by
 intro j
 unfold AD.flush
 split
 ·exact h j
 ·exact Nat.zero_le _
theorem AD.Few.mono {a:AD}{N M:Nat}(h:a.Few N) (hm:N≤M):a.Few M:=fun j=>Nat.le_trans (h j) hm
section
variable {p:Nat}{a:AD}{F:List Nat}{w0 w:World}{X:List A}{Φ:Ending→World→Prop}
theorem write_u (h:Dr p a F w0 w X) (hF:a.Few 1000000){i:Int}{s:ByteArray}{n:Int}(hn:a.put i s=n) (hk:∀w',Dr p (a.write i s) F w0 w' X→Φ (.returned (.int .i64 n)) w'):Calls Tp 66 #[.pointer (some ⟨p,0,none⟩),.int .i64 i,.string s] w Φ:=
 (write_a h hF i s).mono fun e w' ⟨he,hd⟩=>by rw[he,hn]; exact hk w' hd
theorem flush_u (h:Dr p a F w0 w X) (hF:a.Few 1000000){n:Int}(hn:a.flush1=n) (hk:∀w',Dr p a.flush F w0 w' X→Φ (.returned (.int .i64 n)) w'):Calls Tp 62 #[.pointer (some ⟨p,0,none⟩)] w Φ:=
 (flush_a h hF).mono fun e w' ⟨he,hd⟩=>by rw[he,hn]; exact hk w' hd
theorem new_u (hT:T F w0 w X){n:Nat}(hn:1≤n∧n≤4096) (hk:∀p w',Dr p (AD.new n) F w0 w' X→Φ (.returned (.pointer (some ⟨p,0,none⟩))) w'):Calls Tp 38 #[.int .i64 n] w Φ:=
 (new_a n hT (by omega)).mono fun e w' ⟨p,he,hd⟩=>by rw[he]; exact hk p w' hd
end
theorem Dr.under {p:Nat}{a:AD}{F:List Nat}{w0 w:World}{X:List A}(h:Dr p a F w0 w X):T F w0 w X:=by
 obtain⟨D,_,_,hT⟩:=h
 exact T.dropAll (hT.swap List.perm_append_comm)
end Go.Proofs.YtkknkmplmilihaaGreat
end
section
namespace Go.Proofs.YtkknkmplmilihaaGreat
open Go.Sh Go.Maps Go.RowKit
structure RW where
 g:Option Nat
 cap:Nat
 l:List ByteArray
def RW.val (e:RW):Value:=.slice (ptr e.g) e.l.length e.cap
def RW.row (e:RW):A:=rowP 9 1 e.g e.l.length e.cap (e.l.map .string)
structure RL where
 p:Nat
 gs:Option Nat
 cs:Nat
 gw:Option Nat
 cw:Nat
 gp:Option Nat
 cp:Nat
 safe:List ByteArray
 ws:List RW
 sp:List Bool
 gone:Bool
 cut:Bool
 left:Int
def hdr (R:RL):List A:=[blk R.p #[.slice (ptr R.gs) R.safe.length R.cs,.slice (ptr R.gw) R.ws.length R.cw,.slice (ptr R.gp) R.sp.length R.cp,.bool R.gone,.bool R.cut,.int .i64 R.left] 146,
 rowP 9 1 R.gs R.safe.length R.cs (R.safe.map .string),rowP 54 1 R.gw R.ws.length R.cw (R.ws.map RW.val),rowP 4 1 R.gp R.sp.length R.cp (R.sp.map .bool)]
def refL (R:RL):List A:=hdr R++R.ws.map RW.row
structure RAbs (R:RL) (a:AD):Prop where
 n1:a.safe.length≤4096
 safe:R.safe=a.safe
 wl:R.ws.length=a.safe.length
 ws:∀i (e:RW),R.ws[i]?=some e→e.l=a.pend i
 pl:R.sp.length=a.safe.length
 sp:∀i b,R.sp[i]?=some b→b=a.spoilt i
 dead:R.gone=a.dead
 power:match a.power with
  |none=>R.cut=false
  |some n=>R.cut=true∧R.left=n∧n≤9223372036854775807
def Rf (p:Nat) (a:AD) (F:List Nat) (w0 w:World) (X:List A):Prop:=∃R,R.p=p∧RAbs R a∧T F w0 w (refL R++X)
theorem RAbs.off {R:RL}{a:AD}(h:RAbs R a):(R.cut&&R.left==0)=a.off:=by
 have hp:=h.power
 unfold AD.off
 cases ha:a.power with
 |none=>rw[ha]at hp; simp only at hp; simp[hp]
 |some n=>
  rw[ha]at hp
  simp only at hp
  rw[hp.1,hp.2.1]
  by_cases hn:n=0
  ·subst hn; rfl
  ·have h1:((n:Int)==0)=false:=by simpa using hn
   rw[h1]; simp[hn]
theorem Rf.quiet {p:Nat}{a:AD}{F:List Nat}{w0 w w':World}{X:List A}(h:Rf p a F w0 w X) (he:Ext w w'):Rf p a F w0 w' X:=by
 obtain⟨R,h1,h2,h3⟩:=h
 exact⟨R,h1,h2,h3.quiet he⟩
theorem roff_r {p:Nat}{a:AD}{F:List Nat}{w0 w:World}{X:List A}(h:Rf p a F w0 w X):Ret Tp 167 #[.pointer (some ⟨p,0,none⟩)] w (.bool a.off):=by
 obtain⟨R,rfl,hA,hT⟩:=h
 rw[←hA.off]
 refine ret_of (revetmentref04_Drive_off_calls ?_)
 unfold revetmentref04_Drive_off
 refine⟨_,rfl,_,hT.ldA (by repeat constructor) rfl,fun hc=>⟨_,rfl,_,hT.ldA (by repeat constructor) rfl,?_,.refl w⟩,fun hc=>⟨?_,.refl w⟩⟩
 ·rw[hc]; rfl
 ·rw[hc]; rfl
theorem rmay_r {p:Nat}{a:AD}{F:List Nat}{w0 w:World}{X:List A}(h:Rf p a F w0 w X) (i:Int):Ret Tp 144 #[.pointer (some ⟨p,0,none⟩),.int .i64 i] w (.int .i64 (a.may i)):=by
 have h0:=h
 obtain⟨R,rfl,hA,hT⟩:=h
 refine ret_of (revetmentref04_Drive_may_calls ?_)
 unfold revetmentref04_Drive_may
 have hd:=hA.dead
 refine⟨_,rfl,_,hT.ldA (by repeat constructor) rfl,fun hc=>⟨?_,.refl w⟩,fun hc=>?_⟩
 ·unfold AD.may; rw[if_pos (by rw[←hd]; exact hc)]
 ·have hnd:¬a.dead=true:=by rw[←hd,hc]; simp
  refine(roff_r h0).mono fun e w1 ⟨he,hx⟩=>⟨_,he,fun ho=>⟨?_,hx⟩,fun ho=>⟨dec_t fun h1=>⟨?_,hx⟩,dec_f fun h1=>⟨_,rfl,_,_,_,(hT.quiet hx).ld (by repeat constructor) rfl,dec_t fun h2=>⟨?_,hx⟩,dec_f fun h2=>⟨?_,hx⟩⟩⟩⟩
  ·unfold AD.may; rw[if_neg hnd,if_pos ho]
  ·unfold AD.may; rw[if_neg hnd,if_neg (by rw[ho]; simp),if_pos (.inl h1)]
  ·unfold AD.may; rw[if_neg hnd,if_neg (by rw[ho]; simp),if_pos (.inr (by rw[←hA.safe]; exact h2))]
  ·unfold AD.may; rw[if_neg hnd,if_neg (by rw[ho]; simp),if_neg (by rw[←hA.safe]; omega)]
theorem rread_r {p:Nat}{a:AD}{F:List Nat}{w0 w:World}{X:List A}(h:Rf p a F w0 w X) (hF:a.Few 1000000) (i:Int):Ret Tp 97 #[.pointer (some ⟨p,0,none⟩),.int .i64 i] w (.tuple #[.string (a.read i).1,.int .i64 (a.read i).2]):=by
 have h0:=h
 obtain⟨R,rfl,hA,hT⟩:=h
 refine ret_of (revetmentref04_Drive_Read_calls ?_)
 unfold revetmentref04_Drive_Read
 have key:∀x:ByteArray×Int,a.read i=x→(Value.tuple #[.string x.1,.int .i64 x.2])=.tuple #[.string (a.read i).1,.int .i64 (a.read i).2]:=fun x hx=>by rw[hx]
 refine(rmay_r h0 i).mono fun e w1 ⟨he,hx⟩=>⟨_,he,bne_t fun hm=>⟨key (noB,a.may i) (by unfold AD.read; rw[if_pos hm]),hx⟩,bne_f fun hm=>?_⟩
 have hT1:=hT.quiet hx
 have hi:=AD.may_zero hm
 have hrd:=AD.read_of hm
 have hp:i.toNat<R.sp.length:=by rw[hA.pl]; omega
 have hw:i.toNat<R.ws.length:=by rw[hA.wl]; omega
 have hs:i.toNat<R.safe.length:=by rw[hA.safe]; omega
 obtain⟨b1,hb1,hc1⟩:=T.row1 (i:=i.toNat) (v:=.bool R.sp[i.toNat]) hT1 (show rowP 4 1 R.gp R.sp.length R.cp (R.sp.map .bool)∈_ from(by repeat constructor)) (by rw[List.getElem?_map,List.getElem?_eq_getElem hp]; rfl)
 have hsp:=hA.sp i.toNat _ (List.getElem?_eq_getElem hp)
 refine⟨_,rfl,_,_,_,hT1.ldA (by repeat constructor) (by rw[hb1]; rfl),_,rfl,by omega,by omega,_,hc1,fun ht=>⟨key (noB,41) (by rw[hrd,if_pos (by rw[←hsp]; exact ht)]),hx⟩,fun ht=>?_⟩
 have hns:¬a.spoilt i.toNat=true:=by rw[←hsp,ht]; simp
 rw[if_neg hns]at hrd
 obtain⟨b2,hb2,hc2⟩:=T.row1 (i:=i.toNat) (v:=R.ws[i.toNat].val) hT1 (show rowP 54 1 R.gw R.ws.length R.cw (R.ws.map RW.val)∈_ from(by repeat constructor)) (by rw[List.getElem?_map,List.getElem?_eq_getElem hw]; rfl)
 have hws:=hA.ws i.toNat _ (List.getElem?_eq_getElem hw)
 have hmem:R.ws[i.toNat]∈R.ws:=List.getElem_mem hw
 generalize he:R.ws[i.toNat]=e at *
 refine⟨_,rfl,_,_,_,hT1.ldA (by repeat constructor) (by rw[hb2]; rfl),_,rfl,by omega,by omega,_,_,_,hc2,dec_t fun hpos=>?_,dec_f fun hz=>?_⟩
 ·have hne:e.l≠[]:=by intro h; rw[h]at hpos; simp at hpos
  have hfl:e.l.length≤1000000:=by rw[hws]; exact hF _
  have hw1:IntKind.i64.wrap ((e.l.length:Int)-1)=((e.l.length-1:Nat):Int):=by rw[wrap64 _ (by omega) (by omega)]; omega
  have hlast:e.l[e.l.length-1]?=some (e.l.getLast hne):=by rw[List.getLast_eq_getElem]; exact List.getElem?_eq_getElem (by omega)
  obtain⟨b3,hb3,hc3⟩:=T.row1 (i:=e.l.length-1) (v:=.string (e.l.getLast hne)) hT1 (show rowP 9 1 e.g e.l.length e.cap (e.l.map .string)∈_ from List.mem_append_left _ (List.mem_append_right _ (List.mem_map_of_mem (f:=RW.row) hmem))) (by rw[List.getElem?_map,hlast]; rfl)
  rw[hw1]
  refine⟨_,rfl,_,_,_,hT1.ldA (by repeat constructor) (by rw[hb2]; rfl),_,rfl,by omega,by omega,_,_,_,hc2,_,by rw[hb3]; rfl,by omega,by omega,_,by rw[show((e.l.length-1:Nat):Int).toNat=e.l.length-1 by omega]; exact hc3,key (e.l.getLast hne,0) ?_,hx⟩
  rw[hrd]
  unfold AD.top
  rw[←hws,List.getLast?_eq_some_getLast hne]
 ·have hnil:e.l=[]:=List.eq_nil_of_length_eq_zero (by omega)
  obtain⟨b3,hb3,hc3⟩:=T.row1 (i:=i.toNat) (v:=.string R.safe[i.toNat]) hT1 (show rowP 9 1 R.gs R.safe.length R.cs (R.safe.map .string)∈_ from(by repeat constructor)) (by rw[List.getElem?_map,List.getElem?_eq_getElem hs]; rfl)
  refine⟨_,rfl,_,_,_,hT1.ld (by repeat constructor) (by rw[hb3]; rfl),_,rfl,by omega,by omega,_,hc3,key (R.safe[i.toNat],0) ?_,hx⟩
  rw[hrd]
  unfold AD.top
  rw[←hws,hnil,←hA.safe,List.getD_eq_getElem?_getD,List.getElem?_eq_getElem hs]; rfl
theorem append_none {P:Program}{w:World}{t ty e:TypeId}{i:TypeInfo}(cs:Array Bool) (ht:P.underlying t=some (.slice e)) (hi:P.info? e=some i){g:Option Addr}{n cap:Nat}(hn:n≤cap):
  (builtin .append #[t,t] ty cs #[.slice g n cap,.slice none 0 0]).run P w=.ok (.value (.slice g n cap)) w:=by
 cases g<;>simp[builtin,Builtin.append_,run_underlying ht,sizeOf,typeInfo,program,Sem.run,hi,Builtin.lenOf,Builtin.firstCells,loadCells,hn,storeCells,Result.andThen]
theorem append_row {F:List Nat}{w0 w:World}{Γ Δ:List A}{g g2:Option Nat}{n cap n2 cap2:Nat}{l l2:List ByteArray}(hT:T F w0 w Γ) (hk:Pick (rowP 9 1 g n cap (l.map .string)) Γ Δ) (hm:rowP 9 1 g2 n2 cap2 (l2.map .string)∈Γ) (hn:n≤1000000) (hn2:n2≤1000000):
  ∃g' cap' w',(builtin .append #[54,54] 54 #[false,false] #[.slice (ptr g) n cap,.slice (ptr g2) n2 cap2]).run Tp w=.ok (.value (.slice (ptr g') (n+n2) cap')) w'∧T F w0 w' (rowP 9 1 g' (n+n2) cap' ((l++l2).map .string)::Δ):=by
 have h1:=hT.says hm
 have hl2:=rowP.len h1
 cases g2 with
 |none=>
  have h2:cap2=0:=h1.2.2.2
  have h3:n2≤cap2:=h1.2.1
  obtain rfl:n2=0:=by omega
  subst h2
  have:l2=[]:=by
   have:(l2.map Value.string).length=0:=by simpa using hl2
   simpa using this
  subst this
  have h4:=(hT.pick hk).says List.mem_cons_self
  refine⟨g,cap,w,append_none (e:=9) _ (by kernel_rfl) (i:=Tryz.t9) (by kernel_rfl) h4.2.1,?_⟩
  rw[List.append_nil]
  exact hT.pick hk
 |some b=>
  have hnews:∀j u,(l2.map Value.string)[j]?=some u→w.cell? (Addr.add ⟨b,0,none⟩ j)=some u:=fun j u hu=>by
   rw[addr_add,Nat.zero_add]; exact rowP.cell h1 hu
  have hby:Tryz.t9.bytes=16:=by kernel_rfl
  obtain⟨g',cap',w',hr,hT'⟩:=append_t (P:=Tp) (t:=54) (ty:=54) (e:=9) (i:=Tryz.t9) (z:=.string (ByteArray.mk #[])) (size:=1) #[false,false] (by kernel_rfl) (by kernel_rfl) (by kernel_rfl) (by kernel_rfl) (by kernel_rfl)
   hT hk (a:=⟨b,0,none⟩) (m:=n2) (c:=cap2) (news:=l2.map .string) hl2 hnews (fun u hu=>by obtain⟨x,_,rfl⟩:=List.mem_map.1 hu; rfl) (by simp only[maxLen]; omega) (by rw[hby]; omega)
  refine⟨g',cap',w',hr,?_⟩
  rw[List.map_append]
  exact hT'
theorem ws_split {ws:List RW}{i:Nat}(hi:i<ws.length):(ws.map RW.row).Perm (ws[i].row::(ws.take i++ws.drop (i+1)).map RW.row):=by
 have e:ws=ws.take i++ws[i]::ws.drop (i+1):=by rw[List.getElem_cons_drop,List.take_append_drop]
 conv=>lhs; rw[e]
 rw[List.map_append,List.map_cons,List.map_append]
 exact List.perm_middle
theorem ws_join {ws:List RW}{i:Nat}(hi:i<ws.length) (x:RW):(x.row::(ws.take i++ws.drop (i+1)).map RW.row).Perm ((ws.set i x).map RW.row):=by
 rw[List.set_eq_take_append_cons_drop,if_pos hi,List.map_append,List.map_append,List.map_cons]
 exact List.perm_middle.symm
theorem nil_row {F:List Nat}{w0 w:World}{Γ:List A}(h:T F w0 w Γ):T F w0 w (RW.row ⟨none,0,[]⟩::Γ):=h.nilRow 9 1
theorem ruse_r {R:RL}{F:List Nat}{w0 w:World}{X:List A}(hT:T F w0 w (refL R++X)):Calls Tp 145 #[.pointer (some ⟨R.p,0,none⟩)] w fun e w'=>e=.returned (.tuple #[])∧T F w0 w' (refL { R with left:=if R.cut then IntKind.i64.wrap (R.left-1) else R.left }++X):=by
 refine(revetmentref04_Drive_use_calls (R:=fun v w'=>v=.tuple #[]∧T F w0 w' (refL { R with left:=if R.cut then IntKind.i64.wrap (R.left-1) else R.left }++X)) ?_).mono fun e w' ⟨v,he,hv,ht⟩=>⟨hv▸he,ht⟩
 unfold revetmentref04_Drive_use
 refine⟨_,rfl,_,hT.ldA (by repeat constructor) rfl,fun hc=>⟨_,rfl,_,hT.ldA (by repeat constructor) rfl,_,rfl,?_⟩,fun hc=>?_⟩
 ·refine St.tA hT .head (by simp) (by rfl) rfl fun w2 h2=>⟨rfl,?_⟩
  have h3:T F w0 w2 (refL { R with left:=IntKind.i64.wrap (R.left-1) }++X):=h2
  rw[if_pos hc]; exact h3
 ·refine⟨rfl,?_⟩
  rw[if_neg (by rw[hc]; simp)]; exact hT
theorem RAbs.left {R:RL}{a:AD}(h:RAbs R a) (ho:a.off=false):match (a.power.map (fun n:Nat=>n-1):Option Nat) with
  |none=>R.cut=false
  |some n=>R.cut=true∧(if R.cut then IntKind.i64.wrap (R.left-1) else R.left)=(n:Int)∧n≤9223372036854775807:=by
 have hp:=h.power
 cases ha:a.power with
 |none=>rw[ha]at hp; exact hp
 |some n=>
  rw[ha]at hp
  have hn:n≠0:=by
   intro e
   subst e
   unfold AD.off at ho
   rw[ha]at ho
   simp at ho
  simp only[Option.map_some]at hp⊢
  refine⟨hp.1,?_,by omega⟩
  rw[hp.1,if_pos rfl,hp.2.1,wrap64 _ (by omega) (by omega)]
  omega
theorem perm4a {α:Type}(x y b s:α) (l:List α):(x::y::b::s::l).Perm (b::s::y::x::l):=by
 have h1:(x::y::b::s::l).Perm (y::x::b::s::l):=.swap _ _ _
 have h2:(y::x::b::s::l).Perm ([b,s]++y::x::l):=(List.perm_append_comm (l₁:=[y,x]) (l₂:=[b,s])).append_right l
 exact h1.trans h2
theorem rwrite_r {p:Nat}{a:AD}{F:List Nat}{w0 w:World}{X:List A}(h:Rf p a F w0 w X) (hF:a.Few 999999) (i:Int) (s:ByteArray):
  Calls Tp 70 #[.pointer (some ⟨p,0,none⟩),.int .i64 i,.string s] w fun e w'=>e=.returned (.int .i64 (a.put i s))∧Rf p (a.write i s) F w0 w' X:=by
 have h0:=h
 obtain⟨R,rfl,hA,hT⟩:=h
 refine(revetmentref04_Drive_Write_calls (R:=fun v w'=>v=.int .i64 (a.put i s)∧Rf R.p (a.write i s) F w0 w' X) ?_).mono fun e w' ⟨v,he,hv,ht⟩=>⟨hv▸he,ht⟩
 unfold revetmentref04_Drive_Write
 have fail:∀n,a.put i s=n→n≠0→∀w1,Ext w w1→Value.int .i64 n=.int .i64 (a.put i s)∧Rf R.p (a.write i s) F w0 w1 X:=fun n hn h1 w1 hx=>by
  refine⟨by rw[hn],?_⟩
  unfold AD.write
  rw[if_pos (by rw[hn]; exact h1)]
  exact h0.quiet hx
 refine(rmay_r h0 i).mono fun e w1 ⟨he,hx⟩=>⟨_,he,bne_t fun hm=>fail _ (by unfold AD.put; rw[if_pos hm]) hm _ hx,bne_f fun hm=>⟨bne_t fun hs=>fail 1 (by unfold AD.put; rw[if_neg (by simpa using hm),if_pos (by omega)]) (by decide) _ hx,bne_f fun hs=>?_⟩⟩
 have hs64:s.size=64:=by omega
 have hz:a.put i s=0:=by unfold AD.put; rw[if_neg (by simpa using hm),if_neg (by omega)]
 have hi:=AD.may_zero hm
 have hw:i.toNat<R.ws.length:=by rw[hA.wl]; omega
 have hp:i.toNat<R.sp.length:=by rw[hA.pl]; omega
 have hws:=hA.ws i.toNat _ (List.getElem?_eq_getElem hw)
 have hfl:(R.ws[i.toNat]).l.length≤999999:=by rw[hws]; exact hF _
 have hT1:=hT.quiet hx
 have hTx:T F w0 w1 ((R.ws[i.toNat]).row::(hdr R++((R.ws.take i.toNat++R.ws.drop (i.toNat+1)).map RW.row++X))):=by
  refine hT1.swap ?_
  have h1:(refL R++X).Perm (hdr R++((R.ws[i.toNat]).row::(R.ws.take i.toNat++R.ws.drop (i.toNat+1)).map RW.row)++X):=by
   unfold refL
   exact((ws_split hw).append_left (hdr R)).append_right X
  refine h1.trans ?_
  rw[List.append_assoc,List.cons_append]
  exact List.perm_middle
 generalize hrest:(R.ws.take i.toNat++R.ws.drop (i.toNat+1)).map RW.row=rest at hTx
 refine Alloc.t hTx fun k18 w2 hT2=>?_
 have hT2':T F w0 w2 (rowP 9 1 (some k18) 0 0 (([]:List ByteArray).map .string)::(R.ws[i.toNat]).row::(hdr R++(rest++X))):=hT2.weak rfl fun g hg=>⟨rfl,Nat.le_refl _,by decide,#[],hg,rfl,rfl⟩
 obtain⟨b,hb,hc⟩:=T.row1 (i:=i.toNat) (v:=(R.ws[i.toNat]).val) hT2' (show rowP 54 1 R.gw R.ws.length R.cw (R.ws.map RW.val)∈_ from(by repeat constructor)) (by rw[List.getElem?_map,List.getElem?_eq_getElem hw]; rfl)
 refine⟨_,rfl,_,_,_,hT2'.ldA (by repeat constructor) (by rw[hb]; rfl),_,rfl,by omega,by omega,_,_,_,hc,?_⟩
 obtain⟨g3,c3,w3,hr3,hT3⟩:=append_row (l:=[]) (l2:=(R.ws[i.toNat]).l) hT2' .head (List.mem_cons_of_mem _ List.mem_cons_self) (by decide) (by omega)
 refine⟨_,_,_,w3,hr3,fun w=>w.cell? (Addr.add ⟨R.p,0,none⟩ 1)=some (.slice (ptr R.gw) R.ws.length R.cw),hT3.drew.ldA (by repeat constructor) rfl,_,rfl,_,_,_,fun w hw=>hw,?_⟩
 refine Alloc.t hT3.drew fun k35 w4 hT4=>⟨hT4.ldA (by repeat constructor) rfl,?_⟩
 have hT4':T F w0 w4 (rowP 9 1 (some k35) 1 1 (([s]:List ByteArray).map .string)::rowP 9 1 g3 (0+(R.ws[i.toNat]).l.length) c3 (([]++(R.ws[i.toNat]).l).map .string)::(R.ws[i.toNat]).row::(hdr R++(rest++X))):=hT4.weak rfl fun g hg=>⟨rfl,Nat.le_refl _,by decide,#[.string s],hg,rfl,rfl⟩
 obtain⟨g5,c5,w5,hr5,hT5⟩:=append_row (l:=[]++(R.ws[i.toNat]).l) (l2:=[s]) (n:=0+(R.ws[i.toNat]).l.length) (n2:=1) (g2:=some k35) (cap2:=1) hT4' (.tail .head) List.mem_cons_self (by omega) (by decide)
 refine⟨_,_,_,w5,hr5,hT5.ldA (by repeat constructor) rfl,_,(by rw[hb]; rfl),by omega,by omega,?_⟩
 have hrow:rowP 54 1 R.gw R.ws.length R.cw (R.ws.map RW.val)=rowP 54 1 (some b) R.ws.length R.cw (R.ws.map RW.val):=by rw[hb]
 have hT6:=T.drop (hT5.swap (List.Perm.swap _ _ _))
 have hT7:=T.drop (hT6.swap (List.Perm.swap _ _ _))
 simp only[List.nil_append,Nat.zero_add]at hT7⊢
 have hT8:T F w0 w5 ((hdr R).take 2++rowP 54 1 (some b) R.ws.length R.cw (R.ws.map RW.val)::rowP 4 1 R.gp R.sp.length R.cp (R.sp.map .bool)::rowP 9 1 g5 ((R.ws[i.toNat]).l.length+1) c5 (((R.ws[i.toNat]).l++[s]).map .string)::(rest++X)):=by
  rw[←hrow]
  refine hT7.swap ?_
  exact(List.perm_middle (l₁:=hdr R)).symm
 refine StRow1.t hT8 (.tail (.tail .head)) (by rw[List.length_map]; exact hw) rfl fun w6 hT9=>?_
 obtain⟨b2,hb2,hc2⟩:=T.row1 (i:=i.toNat) (v:=.bool R.sp[i.toNat]) hT9 (show rowP 4 1 R.gp R.sp.length R.cp (R.sp.map .bool)∈_ from(by repeat constructor)) (by rw[List.getElem?_map,List.getElem?_eq_getElem hp]; rfl)
 rw[hb2]at hT9
 refine⟨_,rfl,_,_,_,hT9.ldA (by repeat constructor) rfl,_,rfl,by omega,by omega,?_⟩
 refine StRow1.t hT9 (.tail (.tail (.tail .head))) (by rw[List.length_map]; exact hp) rfl fun w7 hT10=>?_
 have hT11:T F w0 w7 (refL { R with ws:=R.ws.set i.toNat ⟨g5,c5,(R.ws[i.toNat]).l++[s]⟩,sp:=R.sp.set i.toNat false }++X):=by
  have hk:hdr { R with ws:=R.ws.set i.toNat ⟨g5,c5,(R.ws[i.toNat]).l++[s]⟩,sp:=R.sp.set i.toNat false }=[blk R.p #[.slice (ptr R.gs) R.safe.length R.cs,.slice (ptr R.gw) R.ws.length R.cw,.slice (ptr (some b2)) R.sp.length R.cp,.bool R.gone,.bool R.cut,.int .i64 R.left] 146,
    rowP 9 1 R.gs R.safe.length R.cs (R.safe.map .string),rowP 54 1 (some b) R.ws.length R.cw ((R.ws.map RW.val).set i.toNat (.slice (ptr g5) ((R.ws[i.toNat]).l.length+1) c5)),rowP 4 1 (some b2) R.sp.length R.cp ((R.sp.map .bool).set i.toNat (.bool false))]:=by
   rw[←hb,←hb2]
   simp only[hdr,List.length_set,List.map_set,RW.val,List.length_append,List.length_singleton]
  unfold refL
  rw[hk]
  refine hT10.swap ?_
  have hj:=ws_join hw ⟨g5,c5,(R.ws[i.toNat]).l++[s]⟩
  have e1:RW.row ⟨g5,c5,(R.ws[i.toNat]).l++[s]⟩=rowP 9 1 g5 ((R.ws[i.toNat]).l.length+1) c5 (((R.ws[i.toNat]).l++[s]).map .string):=by simp[RW.row]
  rw[e1,hrest]at hj
  have h1:=((hj.append_right X).append_left [blk R.p #[.slice (ptr R.gs) R.safe.length R.cs,.slice (ptr R.gw) R.ws.length R.cw,.slice (ptr (some b2)) R.sp.length R.cp,.bool R.gone,.bool R.cut,.int .i64 R.left] 146,
    rowP 9 1 R.gs R.safe.length R.cs (R.safe.map .string),rowP 54 1 (some b) R.ws.length R.cw ((R.ws.map RW.val).set i.toNat (.slice (ptr g5) ((R.ws[i.toNat]).l.length+1) c5)),rowP 4 1 (some b2) R.sp.length R.cp ((R.sp.map .bool).set i.toNat (.bool false))])
  rw[List.append_assoc]
  refine List.Perm.trans ?_ h1
  exact perm4a _ _ _ _ _
 have hu:=ruse_r hT11
 refine hu.mono fun e w8 ⟨he,hT12⟩=>⟨he,by rw[hz],{ R with ws:=R.ws.set i.toNat ⟨g5,c5,(R.ws[i.toNat]).l++[s]⟩,sp:=R.sp.set i.toNat false,left:=if R.cut then IntKind.i64.wrap (R.left-1) else R.left },rfl,?_,hT12⟩
 rw[AD.write_of hz]
 refine⟨hA.n1,hA.safe,by show(R.ws.set _ _).length=_; rw[List.length_set,hA.wl],fun j e he=>?_,by show(R.sp.set _ _).length=_; rw[List.length_set,hA.pl],fun j b he=>?_,hA.dead,hA.left (AD.may_on hm).1⟩
 ·have h2:(R.ws.set i.toNat ⟨g5,c5,(R.ws[i.toNat]).l++[s]⟩)[j]?=some e:=he
  show e.l=if j=i.toNat then a.pend j++[s] else a.pend j
  by_cases hj:j=i.toNat
  ·subst hj
   rw[List.getElem?_set_self hw]at h2
   rw[if_pos rfl,←hws]
   exact(congrArg RW.l (Option.some.inj h2)).symm
  ·rw[List.getElem?_set_ne (fun h=>hj h.symm)]at h2
   rw[if_neg hj]
   exact hA.ws j e h2
 ·have h2:(R.sp.set i.toNat false)[j]?=some b:=he
  show b=if j=i.toNat then false else a.spoilt j
  by_cases hj:j=i.toNat
  ·subst hj
   rw[List.getElem?_set_self hp]at h2
   rw[if_pos rfl]
   exact(Option.some.inj h2).symm
  ·rw[List.getElem?_set_ne (fun h=>hj h.symm)]at h2
   rw[if_neg hj]
   exact hA.sp j b h2
theorem setSafe {R:RL}{F:List Nat}{w0 w:World}{X:List A}{i:Nat}{s:ByteArray}{K:World→Prop}(hT:T F w0 w (refL R++X)) (hi:i<R.safe.length) (hK:∀w',T F w0 w' (refL { R with safe:=R.safe.set i s }++X)→K w'):
  ∃b,R.gs=some b∧St (Addr.add ⟨b,0,none⟩ (i*1)) (.string s) w K:=by
 obtain⟨b,hb⟩:=rowP.pos (hT.says (show rowP 9 1 R.gs R.safe.length R.cs (R.safe.map .string)∈_ from(by repeat constructor))) (by omega)
 refine⟨b,hb,?_⟩
 have e0:refL R=blk R.p #[.slice (ptr R.gs) R.safe.length R.cs,.slice (ptr R.gw) R.ws.length R.cw,.slice (ptr R.gp) R.sp.length R.cp,.bool R.gone,.bool R.cut,.int .i64 R.left] 146::rowP 9 1 (some b) R.safe.length R.cs (R.safe.map .string)::((hdr R).drop 2++R.ws.map RW.row):=by rw[←hb]; rfl
 rw[e0]at hT
 refine StRow1.t hT (.tail .head) (by rw[List.length_map]; exact hi) rfl fun w' h=>hK w' ?_
 have e1:refL { R with safe:=R.safe.set i s }=blk R.p #[.slice (ptr R.gs) R.safe.length R.cs,.slice (ptr R.gw) R.ws.length R.cw,.slice (ptr R.gp) R.sp.length R.cp,.bool R.gone,.bool R.cut,.int .i64 R.left] 146::rowP 9 1 (some b) R.safe.length R.cs ((R.safe.map .string).set i (.string s))::((hdr R).drop 2++R.ws.map RW.row):=by
  rw[←hb]; simp only[refL,hdr,List.length_set,List.map_set]; rfl
 rw[e1]
 exact h.swap (.swap _ _ _)
theorem setNil {R:RL}{F:List Nat}{w0 w:World}{X:List A}{i:Nat}{K:World→Prop}(hT:T F w0 w (refL R++X)) (hi:i<R.ws.length) (hK:∀w',T F w0 w' (refL { R with ws:=R.ws.set i ⟨none,0,[]⟩ }++X)→K w'):
  ∃b,R.gw=some b∧St (Addr.add ⟨b,0,none⟩ (i*1)) (.slice none 0 0) w K:=by
 obtain⟨b,hb⟩:=rowP.pos (hT.says (show rowP 54 1 R.gw R.ws.length R.cw (R.ws.map RW.val)∈_ from(by repeat constructor))) (by omega)
 refine⟨b,hb,?_⟩
 have hj:=ws_join hi ⟨none,0,[]⟩
 have hs:=ws_split hi
 generalize hrest:(R.ws.take i++R.ws.drop (i+1)).map RW.row=rest at hj hs
 have e0:refL R=(hdr R).take 2++rowP 54 1 (some b) R.ws.length R.cw (R.ws.map RW.val)::rowP 4 1 R.gp R.sp.length R.cp (R.sp.map .bool)::R.ws.map RW.row:=by rw[←hb]; rfl
 rw[e0]at hT
 refine StRow1.t hT (.tail (.tail .head)) (by rw[List.length_map]; exact hi) rfl fun w' h=>hK w' ?_
 have e1:refL { R with ws:=R.ws.set i ⟨none,0,[]⟩ }=(hdr R).take 2++rowP 54 1 (some b) R.ws.length R.cw ((R.ws.map RW.val).set i (.slice none 0 0))::rowP 4 1 R.gp R.sp.length R.cp (R.sp.map .bool)::(R.ws.set i ⟨none,0,[]⟩).map RW.row:=by
  rw[←hb]; simp only[refL,hdr,List.length_set,List.map_set]; rfl
 rw[e1]
 have h2:T F w0 w' ((R.ws[i]).row::(rowP 54 1 (some b) R.ws.length R.cw ((R.ws.map RW.val).set i (.slice none 0 0))::((hdr R).take 2++rowP 4 1 R.gp R.sp.length R.cp (R.sp.map .bool)::(rest++X)))):=by
  refine h.swap ?_
  have h3:(R.ws.map RW.row++X).Perm ((R.ws[i]).row::(rest++X)):=hs.append_right X
  have h4:=h3.append_left (rowP 54 1 (some b) R.ws.length R.cw ((R.ws.map RW.val).set i (.slice none 0 0))::((hdr R).take 2++[rowP 4 1 R.gp R.sp.length R.cp (R.sp.map .bool)]))
  exact h4.trans List.perm_middle
 have h5:=nil_row (T.drop h2)
 refine h5.swap ?_
 have h6:((RW.row ⟨none,0,[]⟩::rest)++X).Perm ((R.ws.set i ⟨none,0,[]⟩).map RW.row++X):=hj.append_right X
 have h7:=h6.append_left ((hdr R).take 2++[rowP 54 1 (some b) R.ws.length R.cw ((R.ws.map RW.val).set i (.slice none 0 0)),rowP 4 1 R.gp R.sp.length R.cp (R.sp.map .bool)])
 refine List.Perm.trans ?_ h7
 have h8:(RW.row ⟨none,0,[]⟩::(rowP 54 1 (some b) R.ws.length R.cw ((R.ws.map RW.val).set i (.slice none 0 0))::((hdr R).take 2++rowP 4 1 R.gp R.sp.length R.cp (R.sp.map .bool)::(rest++X)))).Perm
   (RW.row ⟨none,0,[]⟩::((hdr R).take 2++[rowP 54 1 (some b) R.ws.length R.cw ((R.ws.map RW.val).set i (.slice none 0 0)),rowP 4 1 R.gp R.sp.length R.cp (R.sp.map .bool)]++(rest++X))):=by
  refine List.Perm.cons _ ?_
  rw[List.append_assoc]
  exact(List.perm_middle (l₁:=(hdr R).take 2)).symm
 exact h8.trans List.perm_middle.symm
def keepA (a:AD) (i n:Nat):AD:={ a with safe:=if 0<n then a.safe.set i ((a.pend i).getD (n-1) noB) else a.safe,pend:=fun j=>if j=i then [] else a.pend j }
theorem keep_abs {R:RL}{a:AD}(hA:RAbs R a){i n:Nat}(hi:i<a.safe.length){safe':List ByteArray}(hs:safe'=if 0<n then a.safe.set i ((a.pend i).getD (n-1) noB) else a.safe):RAbs { R with safe:=safe',ws:=R.ws.set i ⟨none,0,[]⟩ } (keepA a i n):=by
 have hl:(keepA a i n).safe.length=a.safe.length:=by
  unfold keepA
  simp only
  split
  ·rw[List.length_set]
  ·rfl
 refine⟨by rw[hl]; exact hA.n1,hs,?_,fun j e he=>?_,by rw[hl]; exact hA.pl,hA.sp,hA.dead,hA.power⟩
 ·show(R.ws.set i ⟨none,0,[]⟩).length=_
  rw[List.length_set,hl]; exact hA.wl
 ·have h2:(R.ws.set i ⟨none,0,[]⟩)[j]?=some e:=he
  show e.l=if j=i then [] else a.pend j
  by_cases hj:j=i
  ·subst hj
   rw[List.getElem?_set_self (by rw[hA.wl]; exact hi)]at h2
   rw[if_pos rfl]
   exact(congrArg RW.l (Option.some.inj h2)).symm
  ·rw[List.getElem?_set_ne (fun h=>hj h.symm)]at h2
   rw[if_neg hj]
   exact hA.ws j e h2
theorem rkeep_r {p:Nat}{a:AD}{F:List Nat}{w0 w:World}{X:List A}(h:Rf p a F w0 w X) (hF:a.Few 1000000){i n:Nat}(hi:i<a.safe.length) (hn:n≤(a.pend i).length):
  Calls Tp 168 #[.pointer (some ⟨p,0,none⟩),.int .i64 i,.int .i64 n] w fun e w'=>e=.returned (.tuple #[])∧Rf p (keepA a i n) F w0 w' X:=by
 obtain⟨R,rfl,hA,hT⟩:=h
 refine(revetmentref04_Drive_keep_calls (R:=fun v w'=>v=.tuple #[]∧Rf R.p (keepA a i n) F w0 w' X) ?_).mono fun e w' ⟨v,he,hv,ht⟩=>⟨hv▸he,ht⟩
 unfold revetmentref04_Drive_keep
 have hw:i<R.ws.length:=by rw[hA.wl]; exact hi
 have hs:i<R.safe.length:=by rw[hA.safe]; exact hi
 have hws:=hA.ws i _ (List.getElem?_eq_getElem hw)
 refine Join.intro fun J hJ=>?_
 have fin:∀(safe':List ByteArray) (w1:World),safe'.length=R.safe.length→T F w0 w1 (refL { R with safe:=safe' }++X)→(safe'=if 0<n then a.safe.set i ((a.pend i).getD (n-1) noB) else a.safe)→J [] w1:=by
  intro safe' w1 hl hT1 hs'
  refine hJ _ _ ⟨rfl,_,rfl,?_⟩
  obtain⟨b,hb,hst⟩:=setNil (R:={ R with safe:=safe' }) (i:=i) hT1 hw fun w' hT2=>(⟨rfl,{ R with safe:=safe',ws:=R.ws.set i ⟨none,0,[]⟩ },rfl,keep_abs hA hi hs',hT2⟩:Value.tuple #[]=Value.tuple #[]∧Rf R.p (keepA a i n) F w0 w' X)
  have hb:R.gw=some b:=hb
  refine⟨_,_,_,hT1.ldA (by repeat constructor) rfl,_,(by show ptr R.gw=_; rw[hb]; rfl),by omega,by show(i:Int)<(R.ws.length:Int); omega,?_⟩
  exact hst
 refine⟨dec_t fun hpos=>?_,dec_f fun hz=>fin R.safe w rfl hT (by rw[if_neg (by omega),hA.safe])⟩
 have hfl:=hF i
 have w1':IntKind.i64.wrap ((n:Int)-1)=((n-1:Nat):Int):=by rw[wrap64 _ (by omega) (by omega)]; omega
 rw[w1']
 have hlt:n-1<(R.ws[i]).l.length:=by rw[hws]; omega
 have hTd:=hT.drew
 have hmem:(R.ws[i]).row∈refL R++X:=List.mem_append_left _ (List.mem_append_right _ (List.mem_map_of_mem (List.getElem_mem hw)))
 obtain⟨b1,hb1,_⟩:=T.row1 (i:=i) (v:=(R.ws[i]).val) hTd (show rowP 54 1 R.gw R.ws.length R.cw (R.ws.map RW.val)∈_ from(by repeat constructor)) (by rw[List.getElem?_map,List.getElem?_eq_getElem hw]; rfl)
 obtain⟨b2,hb2,_⟩:=T.row1 (i:=n-1) (v:=.string (R.ws[i]).l[n-1]) hTd (show rowP 9 1 (R.ws[i]).g (R.ws[i]).l.length (R.ws[i]).cap ((R.ws[i]).l.map .string)∈_ from hmem) (by rw[List.getElem?_map,List.getElem?_eq_getElem hlt]; rfl)
 obtain⟨b3,hb3,hst⟩:=setSafe (i:=i) (s:=(R.ws[i]).l[n-1]) (K:=fun w3=>J [] w3) hTd hs fun w' hT2=>fin _ w' (by rw[List.length_set]) hT2 (by
  rw[if_pos (by omega),←hA.safe]
  congr 1
  rw[←hws,List.getD_eq_getElem?_getD,List.getElem?_eq_getElem hlt]; rfl)
 refine⟨fun w=>T F w0 w (refL R++X),hTd,_,rfl,_,_,_,fun w h=>h.ld (by repeat constructor) rfl,_,rfl,_,_,_,fun w h=>h.ldA (by repeat constructor) rfl,_,by rw[hb1]; rfl,by omega,by omega,ptr (R.ws[i]).g,(R.ws[i]).l.length,(R.ws[i]).cap,fun w h=>?_,_,by rw[hb2]; rfl,by omega,by omega,_,fun w h=>?_,_,by rw[hb3]; rfl,by omega,by omega,hst⟩
 ·obtain⟨b4,hb4,hc⟩:=T.row1 (i:=i) (v:=(R.ws[i]).val) h (show rowP 54 1 R.gw R.ws.length R.cw (R.ws.map RW.val)∈_ from(by repeat constructor)) (by rw[List.getElem?_map,List.getElem?_eq_getElem hw]; rfl)
  rw[hb1]at hb4; cases hb4
  exact hc
 ·obtain⟨b4,hb4,hc⟩:=T.row1 (i:=n-1) (v:=.string (R.ws[i]).l[n-1]) h (show rowP 9 1 (R.ws[i]).g (R.ws[i]).l.length (R.ws[i]).cap ((R.ws[i]).l.map .string)∈_ from hmem) (by rw[List.getElem?_map,List.getElem?_eq_getElem hlt]; rfl)
  rw[hb2]at hb4; cases hb4
  exact hc
def cnt (pend:Nat→List ByteArray):Nat→Nat→Nat
 |_,0=>0
 |i,n+1=>(if pend i=[] then 0 else 1)+cnt pend (i+1) n
theorem keptFrom_snoc (g:Nat→Nat→Nat) (pend:Nat→List ByteArray) (s:ByteArray):∀(l:List ByteArray) (i k:Nat),
  keptFrom g pend i k (l++[s])=keptFrom g pend i k l++[if pend (i+l.length)=[] then s else if 0<g (k+cnt pend i l.length) (pend (i+l.length)).length then (pend (i+l.length)).getD (g (k+cnt pend i l.length) (pend (i+l.length)).length-1) noB else s]
 |[],i,k=>by
  simp only[List.nil_append,keptFrom,List.length_nil,Nat.add_zero,cnt]
  split<;>rfl
 |x::l,i,k=>by
  have h1:=keptFrom_snoc g pend s l (i+1) k
  have h2:=keptFrom_snoc g pend s l (i+1) (k+1)
  rw[show i+1+l.length=i+(x::l).length by simp; omega]at h1 h2
  simp only[List.cons_append,keptFrom]
  have hc:cnt pend i (x::l).length=(if pend i=[] then 0 else 1)+cnt pend (i+1) l.length:=rfl
  by_cases hp:pend i=[]
  ·rw[if_pos hp,if_pos hp,h1,hc,if_pos hp,Nat.zero_add]; rfl
  ·rw[if_neg hp,if_neg hp,h2,hc,if_neg hp,show k+1+cnt pend (i+1) l.length=k+(1+cnt pend (i+1) l.length) by omega]; rfl
def AD.part (a:AD) (g:Nat→Nat→Nat) (i:Nat):AD:={ a with safe:=keptFrom g a.pend 0 0 (a.safe.take i)++a.safe.drop i,pend:=fun j=>if j<i then [] else a.pend j }
theorem part_zero (a:AD) (g:Nat→Nat→Nat):a.part g 0=a:=by
 unfold AD.part
 simp[keptFrom]
theorem part_len (a:AD) (g:Nat→Nat→Nat) (i:Nat):(a.part g i).safe.length=a.safe.length:=by
 simp[AD.part,keptFrom_len]; omega
theorem part_step (a:AD) (g:Nat→Nat→Nat){i:Nat}(hi:i<a.safe.length):a.part g (i+1)=keepA (a.part g i) i (if a.pend i=[] then 0 else g (cnt a.pend 0 i) (a.pend i).length):=by
 have hpi:(a.part g i).pend i=a.pend i:=by simp[AD.part]
 have hpend:(fun j=>if j<i+1 then [] else a.pend j)=fun j=>if j=i then ([]:List ByteArray) else if j<i then [] else a.pend j:=by
  funext j
  by_cases h1:j=i
  ·subst h1; simp
  ·by_cases h2:j<i
   ·rw[if_pos (by omega),if_neg h1,if_pos h2]
   ·rw[if_neg (by omega),if_neg h1,if_neg h2]
 have htake:a.safe.take (i+1)=a.safe.take i++[a.safe[i]]:=by rw[List.take_add_one,List.getElem?_eq_getElem hi]; rfl
 have hdrop:a.safe.drop i=a.safe[i]::a.safe.drop (i+1):=by rw[List.drop_eq_getElem_cons hi]
 have hlt:(a.safe.take i).length=i:=by rw[List.length_take]; omega
 have hkl:(keptFrom g a.pend 0 0 (a.safe.take i)).length=i:=by rw[keptFrom_len,hlt]
 have hsafe:keptFrom g a.pend 0 0 (a.safe.take (i+1))++a.safe.drop (i+1)=if 0<(if a.pend i=[] then 0 else g (cnt a.pend 0 i) (a.pend i).length) then (keptFrom g a.pend 0 0 (a.safe.take i)++a.safe.drop i).set i ((a.pend i).getD ((if a.pend i=[] then 0 else g (cnt a.pend 0 i) (a.pend i).length)-1) noB) else keptFrom g a.pend 0 0 (a.safe.take i)++a.safe.drop i:=by
  rw[htake,keptFrom_snoc,hlt,Nat.zero_add,Nat.zero_add,hdrop,List.append_assoc]
  by_cases hp:a.pend i=[]
  ·simp only[hp,if_true,Nat.lt_irrefl,if_false]; rfl
  ·simp only[hp,if_false]
   split
   ·rw[List.set_append_right _ _ (by omega),hkl,Nat.sub_self,List.set_cons_zero]; rfl
   ·rfl
 unfold keepA
 rw[hpi]
 show AD.mk _ _ _ _ _=AD.mk _ _ _ _ _
 rw[hpend,hsafe]
 rfl
theorem part_end {R:RL}{a:AD}{g:Nat→Nat→Nat}(h:RAbs R (a.part g a.safe.length)):RAbs R (a.settle g):=by
 have hs:(a.part g a.safe.length).safe=keptFrom g a.pend 0 0 a.safe:=by simp[AD.part]
 have hl:(a.settle g).safe.length=a.safe.length:=by show(keptFrom g a.pend 0 0 a.safe).length=_; rw[keptFrom_len]
 have hw:=h.wl
 have hpl:=h.pl
 rw[part_len]at hw hpl
 refine⟨by rw[hl,←part_len a g a.safe.length]; exact h.n1,by rw[h.safe,hs]; rfl,by rw[hl]; exact hw,fun j e he=>?_,by rw[hl]; exact hpl,h.sp,h.dead,h.power⟩
 have hj:=(List.getElem?_eq_some_iff.1 he).1
 rw[h.ws j e he]
 show(if j<a.safe.length then [] else a.pend j)=[]
 rw[if_pos (by omega)]
theorem part_few {a:AD}{N:Nat}(h:a.Few N) (g:Nat→Nat→Nat) (i:Nat):(a.part g i).Few N:=by
 intro j
 show(if j<i then [] else a.pend j).length≤N
 split
 ·exact Nat.zero_le _
 ·exact h j
theorem rflush_r {p:Nat}{a:AD}{F:List Nat}{w0 w:World}{X:List A}(h:Rf p a F w0 w X) (hF:a.Few 1000000):
  Calls Tp 96 #[.pointer (some ⟨p,0,none⟩)] w fun e w'=>e=.returned (.int .i64 a.flush1)∧Rf p a.flush F w0 w' X:=by
 have h0:=h
 obtain⟨R,rfl,hA,hT⟩:=h
 refine(revetmentref04_Drive_Flush_calls (R:=fun v w'=>v=.int .i64 a.flush1∧Rf R.p a.flush F w0 w' X) ?_).mono fun e w' ⟨v,he,hv,ht⟩=>⟨hv▸he,ht⟩
 unfold revetmentref04_Drive_Flush
 have hd:=hA.dead
 have fail:∀n,a.flush1=n→n≠0→∀w1,Ext w w1→Value.int .i64 n=.int .i64 a.flush1∧Rf R.p a.flush F w0 w1 X:=fun n hn h1 w1 hx=>by
  refine⟨by rw[hn],?_⟩
  unfold AD.flush
  rw[if_pos (by rw[hn]; exact h1)]
  exact h0.quiet hx
 refine⟨_,rfl,_,hT.ldA (by repeat constructor) rfl,fun hc=>fail 40 (by unfold AD.flush1; rw[if_pos (by rw[←hd]; exact hc)]) (by decide) _ (.refl w),fun hc=>?_⟩
 have hnd:¬a.dead=true:=by rw[←hd,hc]; simp
 refine(roff_r h0).mono fun e w1 ⟨he,hx⟩=>⟨_,he,fun ho=>fail 42 (by unfold AD.flush1; rw[if_neg hnd,if_pos ho]) (by decide) _ hx,fun ho=>?_⟩
 have hz:a.flush1=0:=by unfold AD.flush1; rw[if_neg hnd,if_neg (by rw[ho]; simp)]
 refine(ruse_r (hT.quiet hx)).mono fun e w2 ⟨he,hT2⟩=>⟨he,?_⟩
 have hA1:RAbs { R with left:=if R.cut then IntKind.i64.wrap (R.left-1) else R.left } { a with power:=a.power.map (·-1) }:=⟨hA.n1,hA.safe,hA.wl,hA.ws,hA.pl,hA.sp,hA.dead,hA.left ho⟩
 have h2:Rf R.p { a with power:=a.power.map (·-1) } F w0 w2 X:=⟨{ R with left:=if R.cut then IntKind.i64.wrap (R.left-1) else R.left },rfl,hA1,hT2⟩
 try dsimp only
 rw[hz,AD.flush_of hz]
 have hF1:({ a with power:=a.power.map (·-1) }:AD).Few 1000000:=hF
 generalize ({ a with power:=a.power.map (·-1) }:AD)=b at h2 hF1
 clear hA1 hT2 hA hT
 refine⟨fun vs w'=>∃i:Nat,vs=[.int .i64 i]∧i≤b.safe.length∧b.safe.length≤4096∧Rf R.p (b.part (fun _ m=>m) i) F w0 w' X,fun vs _=>match vs with|[.int _ i]=>(5000-i).toNat|_=>0,⟨0,rfl,by omega,(by obtain⟨_,_,hA,_⟩:=h2; exact hA.n1),by rw[part_zero]; exact h2⟩,?_⟩
 rintro vs w3 ⟨i,rfl,hib,hn1,hR⟩
 have hR0:=hR
 obtain⟨R3,hp3,hA3,hT3⟩:=hR
 have hwl:=hA3.wl
 rw[part_len]at hwl
 refine⟨_,rfl,⟨R3.p,0,none⟩,by rw[hp3],_,_,_,hT3.ldA (by repeat constructor) rfl,dec_t fun hlt=>?_,dec_f fun hge=>⟨rfl,R3,hp3,?_,hT3⟩⟩
 ·have hi:i<b.safe.length:=by omega
  have hw:i<R3.ws.length:=by omega
  obtain⟨q,hq,hc⟩:=T.row1 (i:=i) (v:=(R3.ws[i]).val) hT3 (show rowP 54 1 R3.gw R3.ws.length R3.cw (R3.ws.map RW.val)∈_ from(by repeat constructor)) (by rw[List.getElem?_map,List.getElem?_eq_getElem hw]; rfl)
  have hws:=hA3.ws i _ (List.getElem?_eq_getElem hw)
  have hpi:(b.part (fun _ m=>m) i).pend i=b.pend i:=by simp[AD.part]
  rw[hpi]at hws
  refine⟨⟨R3.p,0,none⟩,by rw[hp3],_,_,_,hT3.ldA (by repeat constructor) (by rw[hq]; rfl),_,rfl,by omega,by omega,_,_,_,hc,?_⟩
  have hk:=rkeep_r hR0 (part_few hF1 _ i) (i:=i) (n:=(b.pend i).length) (by rw[part_len]; exact hi) (by rw[hpi]; exact Nat.le_refl _)
  rw[hws]
  refine hk.mono fun e w4 ⟨he,h4⟩=>⟨he,⟨i+1,by rw[wrap64 _ (by omega) (by omega)]; rfl,by omega,hn1,?_⟩,?_⟩
  ·rw[part_step b _ hi]
   have:(if b.pend i=[] then 0 else (fun _ m=>m) (cnt b.pend 0 i) (b.pend i).length)=(b.pend i).length:=by
    split
    ·rename_i h; rw[h]; rfl
    ·rfl
   rw[this]
   exact h4
  ·show((5000:Int)-IntKind.i64.wrap ((i:Int)+1)).toNat<((5000:Int)-(i:Int)).toNat
   rw[wrap64 _ (by omega) (by omega)]; omega
 ·have hi:i=b.safe.length:=by omega
  rw[hi]at hA3
  exact part_end hA3
theorem push_t {P:Program}{F:List Nat}{w0 w:World}{Γ Δ:List A}{t e:TypeId}{i:TypeInfo}{z v:Value}(ht:P.underlying t=some (.slice e)) (hi:P.info? e=some i) (hz:i.zero=some z) (hsize:i.size=1) (hzs:z.cells.size=1) (hby:decide (i.bytes≤1000000)=true)
  {g:Option Nat} {n cap:Nat} {xs:List Value} (hT:T F w0 w Γ) (hk:Pick (rowP e 1 g n cap xs) Γ Δ) (hv:v.oneCell'=true) (hn:n≤1000000) {K:Option Addr→Nat→Nat→World→Prop} (hK:∀g' cap' w',T F w0 w' (rowP e 1 g' (n+1) cap' (xs++[v])::Δ)→K (ptr g') (n+1) cap' w'):
  Alloc #[v] e w fun k w1=>∃(p:Option Addr) (l c:Nat),∃w2,(builtin .append #[t,t] t #[false,false] #[.slice (ptr g) n cap,.slice (some ⟨k,0,none⟩) 1 1]).run P w1=.ok (.value (.slice p l c)) w2∧K p l c w2:=by
 refine Alloc.t hT fun k w1 hT1=>?_
 have hby':i.bytes≤1000000:=of_decide_eq_true hby
 have hmul:(n+1)*i.bytes≤1000001*1000000:=Nat.mul_le_mul (by omega) hby'
 obtain⟨g',cap',w',hr,hT'⟩:=append_t (ty:=t) #[false,false] ht hi hz hsize hzs hT1 (.tail hk) (a:=⟨k,0,none⟩) (m:=1) (c:=1) (news:=[v]) rfl (fun j u hu=>by
   rw[addr_add,Nat.zero_add]
   exact hT1.ld (by repeat constructor) (by simpa using hu)) (fun u hu=>by obtain rfl:=List.mem_singleton.1 hu; exact hv) (by simp only[maxLen]; omega) (by omega)
 exact⟨_,_,_,w',hr,hK g' cap' w' (T.drop (hT'.swap (.swap _ _ _)))⟩
theorem perm4b {α:Type}(d c b a:α) (l:List α):(d::c::b::a::l).Perm (a::b::c::d::l):=by
 have h1:=List.reverse_perm [a,b,c,d]
 exact h1.append_right l
theorem rnew_r (n:Nat){F:List Nat}{w0 w:World}{X:List A}(hT:T F w0 w X) (hn:1≤n∧n≤4096):
  Calls Tp 39 #[.int .i64 n] w fun e w'=>∃p,e=.returned (.pointer (some ⟨p,0,none⟩))∧Rf p (AD.new n) F w0 w' X:=by
 refine(revetmentref04_New_calls (R:=fun v w'=>∃p,v=.pointer (some ⟨p,0,none⟩)∧Rf p (AD.new n) F w0 w' X) ?_).mono fun e w' ⟨v,he,p,hv,ht⟩=>⟨p,hv▸he,ht⟩
 unfold revetmentref04_New
 refine⟨dec_t fun h=>absurd h (by omega),dec_f fun _=>⟨dec_t fun h=>absurd h (by omega),dec_f fun _=>?_⟩⟩
 refine Alloc.t hT fun k w1 hT1=>(blank_spec w1).mono fun e w2 ⟨he,hx⟩=>⟨_,he,?_⟩
 have nils:∀m:Nat,(List.replicate m (⟨none,0,[]⟩:RW)).map RW.row=List.replicate m (RW.row ⟨none,0,[]⟩):=fun m=>by simp
 have hT2:T F w0 w2 (refL ⟨k,none,0,none,0,none,0,[],[],[],false,false,0⟩++X):=((((hT1.quiet hx).swap (.refl _)).nilRow 4 1).nilRow 54 1).nilRow 9 1 |>.swap (by
  exact(List.perm_middle (l₁:=[rowP 9 1 none 0 0 [],rowP 54 1 none 0 0 [],rowP 4 1 none 0 0 []])))
 refine⟨fun vs w'=>∃(i:Nat) (gs gw gp:Option Nat) (cs cw cp:Nat),vs=[.int .i64 i]∧i≤n∧T F w0 w' (refL ⟨k,gs,cs,gw,cw,gp,cp,List.replicate i zeroSec,List.replicate i ⟨none,0,[]⟩,List.replicate i false,false,false,0⟩++X),fun vs _=>match vs with|[.int _ i]=>(n-i).toNat|_=>0,⟨0,none,none,none,0,0,0,rfl,by omega,hT2⟩,?_⟩
 rintro vs w3 ⟨i,gs,gw,gp,cs,cw,cp,rfl,hin,hT3⟩
 refine⟨_,rfl,dec_t fun hlt=>?_,dec_f fun hge=>⟨k,rfl,_,rfl,?_,hT3⟩⟩
 ·have wr:IntKind.i64.wrap ((i:Int)+1)=((i+1:Nat):Int):=by rw[wrap64 _ (by omega) (by omega)]; omega
  rw[wr]
  have hk:refL ⟨k,gs,cs,gw,cw,gp,cp,List.replicate i zeroSec,List.replicate i ⟨none,0,[]⟩,List.replicate i false,false,false,0⟩=[blk k #[.slice (ptr gs) i cs,.slice (ptr gw) i cw,.slice (ptr gp) i cp,.bool false,.bool false,.int .i64 0] 146,
    rowP 9 1 gs i cs (List.replicate i (.string zeroSec)),rowP 54 1 gw i cw (List.replicate i (.slice none 0 0)),rowP 4 1 gp i cp (List.replicate i (.bool false))]++List.replicate i (RW.row ⟨none,0,[]⟩):=by
   simp only[refL,hdr,List.length_replicate,List.map_replicate]; rfl
  rw[hk]at hT3
  refine⟨_,rfl,_,_,_,hT3.ld (by repeat constructor) rfl,push_t (i:=Tryz.t9) (z:=.string (ByteArray.mk #[])) (by kernel_rfl) (by kernel_rfl) (by kernel_rfl) (by kernel_rfl) (by kernel_rfl) (by kernel_rfl) hT3 (.tail .head) rfl (by omega) fun g1 c1 w4 hT4=>⟨_,rfl,?_⟩⟩
  refine St.t hT4 (.tail .head) (by simp) (by rfl) rfl fun w5 hT5=>⟨_,rfl,_,_,_,hT5.ldA (by repeat constructor) rfl,?_⟩
  refine push_t (i:=Tryz.t54) (z:=.slice none 0 0) (by kernel_rfl) (by kernel_rfl) (by kernel_rfl) (by kernel_rfl) (by kernel_rfl) (by kernel_rfl) hT5 (.tail (.tail .head)) rfl (by omega) fun g2 c2 w6 hT6=>⟨_,rfl,?_⟩
  refine St.tA hT6 (.tail (.tail .head)) (by simp) (by rfl) rfl fun w7 hT7=>⟨_,rfl,_,_,_,hT7.ldA (by repeat constructor) rfl,?_⟩
  refine push_t (i:=Tryz.t4) (z:=.bool false) (by kernel_rfl) (by kernel_rfl) (by kernel_rfl) (by kernel_rfl) (by kernel_rfl) (by kernel_rfl) hT7 (.tail (.tail (.tail .head))) rfl (by omega) fun g3 c3 w8 hT8=>⟨_,rfl,?_⟩
  refine St.tA hT8 (.tail (.tail (.tail .head))) (by simp) (by rfl) rfl fun w9 hT9=>⟨⟨i+1,g1,g2,g3,c1,c2,c3,rfl,by omega,?_⟩,?_⟩
  ·have hk2:refL ⟨k,g1,c1,g2,c2,g3,c3,List.replicate (i+1) zeroSec,List.replicate (i+1) ⟨none,0,[]⟩,List.replicate (i+1) false,false,false,0⟩=[blk k #[.slice (ptr g1) (i+1) c1,.slice (ptr g2) (i+1) c2,.slice (ptr g3) (i+1) c3,.bool false,.bool false,.int .i64 0] 146,
     rowP 9 1 g1 (i+1) c1 (List.replicate i (.string zeroSec)++[.string zeroSec]),rowP 54 1 g2 (i+1) c2 (List.replicate i (.slice none 0 0)++[.slice none 0 0]),rowP 4 1 g3 (i+1) c3 (List.replicate i (.bool false)++[.bool false])]++(RW.row ⟨none,0,[]⟩::List.replicate i (RW.row ⟨none,0,[]⟩)):=by
    simp only[refL,hdr,List.length_replicate,List.map_replicate,←List.replicate_succ',←List.replicate_succ]; rfl
   rw[hk2]
   refine(nil_row hT9).swap ?_
   refine List.Perm.trans ?_ (List.perm_middle (l₁:=[blk k #[.slice (ptr g1) (i+1) c1,.slice (ptr g2) (i+1) c2,.slice (ptr g3) (i+1) c3,.bool false,.bool false,.int .i64 0] 146,
     rowP 9 1 g1 (i+1) c1 (List.replicate i (.string zeroSec)++[.string zeroSec]),rowP 54 1 g2 (i+1) c2 (List.replicate i (.slice none 0 0)++[.slice none 0 0]),rowP 4 1 g3 (i+1) c3 (List.replicate i (.bool false)++[.bool false])])).symm
   refine List.Perm.cons _ ?_
   exact perm4b _ _ _ _ _
  ·show((n:Int)-((i+1:Nat):Int)).toNat<((n:Int)-(i:Int)).toNat
   omega
 ·have hi:i=n:=by omega
  subst hi
  refine⟨by simp[AD.new]; omega,rfl,by simp[AD.new],fun j e he=>?_,by simp[AD.new],fun j b hb=>?_,rfl,rfl⟩
  ·rw[List.eq_of_mem_replicate (List.mem_of_getElem? he)]; rfl
  ·rw[List.eq_of_mem_replicate (List.mem_of_getElem? hb)]; rfl
end Go.Proofs.YtkknkmplmilihaaGreat
end
section
namespace Go.Proofs.YtkknkmplmilihaaGreat
open Go.Sh Go.RowKit
theorem read_on {a:AD}{n:Nat}(h:a.On n){i:Int}(hi:0≤i∧i<(n:Int)):a.read i=if a.spoilt i.toNat then (noB,41) else (a.top i.toNat,0):=AD.read_of (h.may hi)
structure AD.Hold (a:AD) (n:Nat) (f:Nat→ByteArray):Prop where
 on:a.On n
 pend:∀j,a.pend j=[]
 sp:∀j,a.spoilt j=false
 safe:∀j,j<n→a.safe.getD j noB=f j
theorem AD.Hold.few {a:AD}{n:Nat}{f:Nat→ByteArray}(h:a.Hold n f) (N:Nat):a.Few N:=fun j=>by rw[h.pend]; exact Nat.zero_le _
theorem hold_new (n:Nat):(AD.new n).Hold n fun _=>zeroSec:=⟨AD.On.new n,fun _=>rfl,fun _=>rfl,fun j hj=>by
 show(List.replicate n zeroSec).getD j noB=zeroSec
 simp[List.getD,hj]⟩
theorem Dr.alloc {p:Nat}{a:AD}{F:List Nat}{w0 w:World}{X:List A}(h:Dr p a F w0 w X){c:Array Value}{t:TypeId}{K:Nat→World→Prop}(hK:∀b w',Dr p a F w0 w' (blk b c t::X)→K b w'):Alloc c t w K:=by
 obtain⟨D,h1,h2,hT⟩:=h
 refine Alloc.t hT fun b w' hT'=>hK b w' ⟨D,h1,h2,?_⟩
 first
  |exact hT'
  |exact hT'.swap List.perm_middle.symm
section
variable {p:Nat}{a:AD}{F:List Nat}{w0 w:World}{X:List A}
theorem Dr.perm {X':List A}(h:Dr p a F w0 w X) (hp:X.Perm X'):Dr p a F w0 w X':=by
 obtain⟨D,h1,h2,hT⟩:=h
 exact⟨D,h1,h2,hT.swap (hp.append_right _)⟩
theorem Dr.dropX {y:A}(h:Dr p a F w0 w (y::X)):Dr p a F w0 w X:=by
 obtain⟨D,h1,h2,hT⟩:=h
 exact⟨D,h1,h2,T.drop hT⟩
theorem Dr.st1 {k i:Nat}{c c':Array Value}{t:TypeId}{v:Value}{K:World→Prop}(h:Dr p a F w0 w (blk k c t::X)) (hi:i<c.size) (hc:c.setIfInBounds i v=c') (hv:scalar v=true) (hK:∀w',Dr p a F w0 w' (blk k c' t::X)→K w'):St ⟨k,i,none⟩ v w K:=by
 obtain⟨D,h1,h2,hT⟩:=h
 exact St.t (Γ:=blk k c t::(X++drvL D)) hT .head hi hc hv fun w' hT'=>hK w' ⟨D,h1,h2,hT'⟩
theorem Rf.under (h:Rf p a F w0 w X):T F w0 w X:=by
 obtain⟨R,h1,h2,hT⟩:=h
 exact T.dropAll hT
theorem Rf.alloc (h:Rf p a F w0 w X){c:Array Value}{t:TypeId}{K:Nat→World→Prop}(hK:∀b w',Rf p a F w0 w' (blk b c t::X)→K b w'):Alloc c t w K:=by
 obtain⟨R,h1,h2,hT⟩:=h
 exact Alloc.t hT fun b w' hT'=>hK b w' ⟨R,h1,h2,hT'.swap List.perm_middle.symm⟩
theorem Rf.st1 {k i:Nat}{c c':Array Value}{t:TypeId}{v:Value}{K:World→Prop}(h:Rf p a F w0 w (blk k c t::X)) (hi:i<c.size) (hc:c.setIfInBounds i v=c') (hv:scalar v=true) (hK:∀w',Rf p a F w0 w' (blk k c' t::X)→K w'):St ⟨k,i,none⟩ v w K:=by
 obtain⟨R,h1,h2,hT⟩:=h
 exact St.t (hT.swap List.perm_middle) .head hi hc hv fun w' hT'=>hK w' ⟨R,h1,h2,hT'.swap List.perm_middle.symm⟩
theorem Rf.perm {X':List A}(h:Rf p a F w0 w X) (hp:X.Perm X'):Rf p a F w0 w X':=by
 obtain⟨R,h1,h2,hT⟩:=h
 exact⟨R,h1,h2,hT.swap (hp.append_left _)⟩
theorem Rf.dropX {y:A}(h:Rf p a F w0 w (y::X)):Rf p a F w0 w X:=by
 obtain⟨R,h1,h2,hT⟩:=h
 exact⟨R,h1,h2,T.drop (hT.swap List.perm_middle)⟩
theorem Rf.drew (h:Rf p a F w0 w X):Rf p a F w0 w.drew X:=by
 obtain⟨R,h1,h2,hT⟩:=h
 exact⟨R,h1,h2,hT.drew⟩
end
def drK (p:Nat) (a:AD):Kd:=fun Y=>∃D,D.p=p∧Abs D a∧Y=drvL D
def rfK (p:Nat) (a:AD):Kd:=fun Y=>∃R,R.p=p∧RAbs R a∧Y=refL R
section
variable {p q:Nat}{a:AD}{F:List Nat}{w0 w:World}{X:List A}
theorem Dr.ow (h:Dr p a F w0 w X):Ow (drK p a) F w0 w X:=by
 obtain⟨D,h1,h2,hT⟩:=h
 exact⟨_,⟨D,h1,h2,rfl⟩,hT⟩
theorem Ow.dr (h:Ow (drK p a) F w0 w X):Dr p a F w0 w X:=by
 obtain⟨Y,⟨D,h1,h2,rfl⟩,hT⟩:=h
 exact⟨D,h1,h2,hT⟩
theorem Rf.ow (h:Rf p a F w0 w X):Ow (rfK p a) F w0 w X:=by
 obtain⟨D,h1,h2,hT⟩:=h
 exact⟨_,⟨D,h1,h2,rfl⟩,hT.swap List.perm_append_comm⟩
theorem Ow.rf (h:Ow (rfK p a) F w0 w X):Rf p a F w0 w X:=by
 obtain⟨Y,⟨D,h1,h2,rfl⟩,hT⟩:=h
 exact⟨D,h1,h2,hT.swap List.perm_append_comm⟩
end
abbrev Od:=Option (Nat×AD)
def odK:Od→Kd
 |none=>noK
 |some x=>drK x.1 x.2
def orK:Od→Kd
 |none=>noK
 |some x=>rfK x.1 x.2
abbrev dsK (l:List Od):Kd:=allK odK l
abbrev rsK (l:List Od):Kd:=allK orK l
def odV (x:Od):Value:=.pointer (x.map fun y=>⟨y.1,0,none⟩)
section
variable {l:List Od}{k p:Nat}{a:AD}{F:List Nat}{w0 w:World}{X:List A}
theorem Ow.drive (H:Ow (dsK l) F w0 w X) (hk:l[k]?=some (some (p,a))):∃Z,Dr p a F w0 w (X++Z)∧∀{a':AD}{F':List Nat}{w0' w':World}{X':List A},Dr p a' F' w0' w' (X'++Z)→Ow (dsK (l.set k (some (p,a')))) F' w0' w' X':=by
 obtain⟨Z,h1,h2⟩:=Ow.at hk H
 exact⟨Z,Ow.dr h1,fun {a' F' w0' w' X'} h'=>h2 (x':=some (p,a')) (Dr.ow h')⟩
theorem set_get_same {α:Type}{l:List α}{k:Nat}{x:α}(h:l[k]?=some x):l.set k x=l:=by
 obtain⟨hk,he⟩:=List.getElem?_eq_some_iff.1 h
 rw[←he,List.set_getElem_self]
theorem Ow.onDrive {P:Program}{f:FuncId}{args:Array Value}{v:Value}{b:AD}(H:Ow (dsK l) F w0 w X) (hk:l[k]?=some (some (p,a)))
  (hc:∀Z,Dr p a F w0 w (X++Z)→Calls P f args w fun e w'=>e=.returned v∧Dr p b F w0 w' (X++Z)):Calls P f args w fun e w'=>e=.returned v∧Ow (dsK (l.set k (some (p,b)))) F w0 w' X:=by
 obtain⟨Z,h1,h2⟩:=Ow.drive H hk
 exact(hc Z h1).mono fun e w' ⟨he,h'⟩=>⟨he,h2 h'⟩
end
theorem getD_mem_or {α:Type}(l:List α) (j:Nat) (d:α):l.getD j d∈l∨l.getD j d=d:=by
 by_cases h:j<l.length
 ·exact .inl (by simp[List.getD,h])
 ·exact .inr (by simp[List.getD,List.getElem?_eq_none (Nat.le_of_not_lt h)])
theorem Dr.top_size {p:Nat}{a:AD}{F:List Nat}{w0 w:World}{X:List A}(h:Dr p a F w0 w X) (i:Nat):(a.top i).size≤64:=by
 obtain⟨D,_,hA,_⟩:=h
 have hs:∀s∈a.safe,s.size=64:=by rw[←hA.safe]; exact hA.ok.s64
 have hp:∀s∈a.pend i,s.size=64:=by
  rw[←hA.pend i]
  unfold pendW
  cases hf:D.ws.find? fun e=>e.k==(i:Int) with
  |none=>intro s hs; cases hs
  |some e=>exact hA.ok.w64 e (List.mem_of_find?_eq_some hf)
 unfold AD.top
 split
 ·rename_i s he
  have:=hp s (List.mem_of_getLast? he)
  omega
 ·rcases getD_mem_or a.safe i noB with h|h
  ·have:=hs _ h; omega
  ·rw[h]; show 0≤64; omega
theorem Dr.read_size {p:Nat}{a:AD}{F:List Nat}{w0 w:World}{X:List A}(h:Dr p a F w0 w X) (i:Int):(a.read i).1.size≤64:=by
 unfold AD.read
 split
 ·show 0≤64; omega
 ·split
  ·show 0≤64; omega
  ·exact h.top_size _
def pv (x:Option Nat):Value:=.pointer (ptr x)
def ptrsV (ps:List (Option Nat)):List Value:=ps.map pv
theorem ptrsV_get {ps:List (Option Nat)}{k:Nat}{x:Option Nat}(h:ps[k]?=some x):(ptrsV ps)[k]?=some (pv x):=by simp[ptrsV,h]
theorem ptrsV_len (ps:List (Option Nat)):(ptrsV ps).length=ps.length:=List.length_map ..
def odB (x:Od):Option Nat:=x.map fun y=>y.1
def blks (l:List Od):List (Option Nat):=l.map odB
theorem blks_len (l:List Od):(blks l).length=l.length:=List.length_map ..
theorem blks_get {l:List Od}{k:Nat}{x:Od}(h:l[k]?=some x):(blks l)[k]?=some (odB x):=by simp[blks,h]
theorem blks_set {l:List Od}{k p:Nat}{a b:AD}(h:l[k]?=some (some (p,a))):blks (l.set k (some (p,b)))=blks l:=by
 unfold blks
 rw[List.map_set]
 exact set_get_same (by simp[h,odB])
def FewL (l:List Od) (N:Nat):Prop:=∀q a,some (q,a)∈l→a.Few N
theorem FewL.mono {l:List Od}{N M:Nat}(h:FewL l N) (hm:N≤M):FewL l M:=fun q a hq=>(h q a hq).mono hm
theorem T.pcell {F:List Nat}{w0 w:World}{X:List A}{t:TypeId}{b n cap:Nat}{ps:List (Option Nat)}(H:T F w0 w X) (hm:rowP t 1 (some b) n cap (ptrsV ps)∈X){k:Nat}(hk:k<ps.length):w.cell? (Addr.add ⟨b,0,none⟩ (k*1))=some (.pointer (ptr (ps.getD k none))):=by
 rw[addr_add,Nat.zero_add,Nat.mul_one]
 have:ps[k]?=some (ps.getD k none):=by simp[List.getD,hk]
 exact rowP.cell (H.says hm) (ptrsV_get this)
section
variable {P:Program}{f:FuncId}{args:Array Value}{v:Value}{g:Kd}{F:List Nat}{w0 w:World}{X:List A}{l l':List Od}{k p:Nat}{a b:AD}
theorem Ow.onFst {h h':Kd}(H:Ow (star h g) F w0 w X) (hc:∀Z,Ow h F w0 w (X++Z)→Calls P f args w fun e w'=>e=.returned v∧Ow h' F w0 w' (X++Z)):Calls P f args w fun e w'=>e=.returned v∧Ow (star h' g) F w0 w' X:=by
 obtain⟨Z,hZ,h1,h2⟩:=Ow.lend H
 exact(hc Z h1).mono fun e w' ⟨he,h3⟩=>⟨he,h2 h3⟩
end
def adO (x:Od):Option AD:=x.map fun y=>y.2
def ads (l:List Od):List (Option AD):=l.map adO
theorem FewL.set {l:List Od}{N:Nat}(h:FewL l N){k p:Nat}{a:AD}(ha:a.Few N):FewL (l.set k (some (p,a))) N:=fun q b hm=>by
 rcases List.mem_or_eq_of_mem_set hm with hm|hm
 ·exact h q b hm
 ·simp at hm
  rw[hm.2]; exact ha
section
variable {h g:Kd}{F:List Nat}{w0 w:World}{X:List A}{l:List Od}{q:Nat}{a:AD}
theorem Ow.newD {n:Nat}(H:Ow h F w0 w X) (hn:1≤n∧n≤4096){Φ:Ending→World→Prop}(hk:∀q w',Ow (star (drK q (AD.new n)) h) F w0 w' X→Φ (.returned (.pointer (some ⟨q,0,none⟩))) w'):Calls Tp 38 #[.int .i64 n] w Φ:=by
 obtain⟨Y,hY,hT⟩:=H
 refine new_u hT hn fun q w' h'=>hk q w' ?_
 exact Ow.join hY (Dr.ow h')
theorem Ow.newR {n:Nat}(H:Ow h F w0 w X) (hn:1≤n∧n≤4096){Φ:Ending→World→Prop}(hk:∀q w',Ow (star (rfK q (AD.new n)) h) F w0 w' X→Φ (.returned (.pointer (some ⟨q,0,none⟩))) w'):Calls Tp 39 #[.int .i64 n] w Φ:=by
 obtain⟨Y,hY,hT⟩:=H
 refine(rnew_r n hT hn).mono fun e w' ⟨q,he,h'⟩=>he▸hk q w' ?_
 exact Ow.join hY (Rf.ow h')
theorem Ow.assoc {k:Kd}(H:Ow (star k (star h g)) F w0 w X):Ow (star (star k h) g) F w0 w X:=by
 obtain⟨Y,⟨Y1,Y2,h1,⟨Y3,Y4,h2,h3,rfl⟩,rfl⟩,hT⟩:=H
 exact⟨_,⟨Y1++Y3,Y4,⟨Y1,Y3,h1,h2,rfl⟩,h3,rfl⟩,by rw[List.append_assoc Y1 Y3 Y4]; exact hT⟩
theorem Ow.inFst {h':Kd}(H:Ow (star h g) F w0 w X) (hi:∀{X:List A},Ow h F w0 w X→Ow h' F w0 w X):Ow (star h' g) F w0 w X:=by
 obtain⟨Z,hZ,h1,h2⟩:=Ow.lend H
 exact h2 (hi h1)
theorem Ow.addD (H:Ow (star (drK q a) (star (dsK l) g)) F w0 w X):Ow (star (dsK (l++[some (q,a)])) g) F w0 w X:=
 Ow.inFst (Ow.assoc H) fun h=>Ow.snoc (f:=odK) (x:=some (q,a)) h
theorem Ow.addR (H:Ow (star (rfK q a) (star g (rsK l))) F w0 w X):Ow (star g (rsK (l++[some (q,a)]))) F w0 w X:=by
 obtain⟨Y,⟨Y1,Y2,h1,⟨Y3,Y4,h2,h3,rfl⟩,rfl⟩,hT⟩:=H
 have h4:Ow (star (rfK q a) (rsK l)) F w0 w (X++Y3):=⟨Y1++Y4,⟨Y1,Y4,h1,h3,rfl⟩,hT.swap (by
  rw[List.append_assoc]
  refine List.Perm.append_left _ ?_
  rw[←List.append_assoc,←List.append_assoc]
  exact List.perm_append_comm.append_right _)⟩
 exact(Ow.join h2 (Ow.snoc (f:=orK) (x:=some (q,a)) h4)).flip
end
theorem blks_snoc (l:List Od) (x:Od):ptrsV (blks (l++[x]))=ptrsV (blks l)++[odV x]:=by
 cases x<;>simp[ptrsV,blks,odB,pv,odV]
theorem ads_snoc (l:List Od) (x:Od):ads (l++[x])=ads l++[adO x]:=by simp[ads]
end Go.Proofs.YtkknkmplmilihaaGreat
end
