import Derived.RowKit3
import Derived.Laws.AppendOwn
import Derived.Laws.MakeOwn
import Derived.Lib.ConvBytes
import Derived.Laws.IdiomRangeMap
import Derived.Lib.BufferWrite
import Derived.Test.YtkknkmplmilihaaGreatProg
import Derived.Test.YtkknkmplmilihaaGreatD1
set_option linter.unusedVariables false
section
namespace Go.Sh
open Go.RowKit
structure Ext (w w':World):Prop where
 os:w'.os=w.os
 output:w'.output=w.output
 size:w.heap.size≤w'.heap.size
 heap:∀b,b<w.heap.size→w'.heap[b]?=w.heap[b]?
theorem Ext.refl (w:World):Ext w w:=⟨rfl,rfl,Nat.le_refl _,fun _ _=>rfl⟩
theorem Ext.trans {a b c:World}(h:Ext a b) (h':Ext b c):Ext a c:=
 ⟨h'.os.trans h.os,h'.output.trans h.output,Nat.le_trans h.size h'.size,fun i hi=>(h'.heap i (Nat.lt_of_lt_of_le hi h.size)).trans (h.heap i hi)⟩
theorem Ext.drew {w w':World}(h:Ext w w'):Ext w w'.drew:=⟨h.os,h.output,h.size,h.heap⟩
theorem Ext.alloc {w w':World}(h:Ext w w') (o:Obj):Ext w (w'.alloc o):=by
 refine⟨h.os,h.output,?_,fun b hb=>?_⟩
 ·show w.heap.size≤(w'.heap.push o).size
  rw[Array.size_push]; exact Nat.le_succ_of_le h.size
 ·show(w'.heap.push o)[b]?=_
  rw[Array.getElem?_push,if_neg (by have:=h.size; omega)]
  exact h.heap b hb
theorem lt_of_heap {w:World}{b:Nat}{o:Obj}(h:w.heap[b]?=some o):b<w.heap.size:=(Array.getElem?_eq_some_iff.1 h).1
theorem Ext.get {w w':World}(h:Ext w w'){b:Nat}{o:Obj}(hb:w.heap[b]?=some o):w'.heap[b]?=some o:=(h.heap b (lt_of_heap hb)).trans hb
structure S (w0 w:World) (Γ:List (Nat×Obj)):Prop where
 ext:Ext w0 w
 nodup:(Γ.map Prod.fst).Nodup
 at':∀p∈Γ,w0.heap.size≤p.1∧w.heap[p.1]?=some p.2
theorem S.start (w:World):S w w []:=⟨.refl w,by simp,fun p h=>by cases h⟩
theorem S.alloc {w0 w:World}{Γ:List (Nat×Obj)}(h:S w0 w Γ) (o:Obj):S w0 (w.alloc o) ((w.heap.size,o)::Γ):=by
 refine⟨h.ext.alloc o,?_,fun p hp=>?_⟩
 ·simp only[List.map_cons,List.nodup_cons]
  refine⟨fun hm=>?_,h.nodup⟩
  obtain⟨p,hp,he⟩:=List.mem_map.1 hm
  have:=lt_of_heap (h.at' p hp).2
  omega
 ·rcases List.mem_cons.1 hp with rfl|hp
  ·exact⟨h.ext.size,by show(w.heap.push o)[w.heap.size]?=_; simp⟩
  ·obtain⟨h1,h2⟩:=h.at' p hp
   refine⟨h1,?_⟩
   show(w.heap.push o)[p.1]?=_
   rw[Array.getElem?_push,if_neg (by have:=lt_of_heap h2; omega)]
   exact h2
theorem S.drew {w0 w:World}{Γ:List (Nat×Obj)}(h:S w0 w Γ):S w0 w.drew Γ:=⟨h.ext.drew,h.nodup,h.at'⟩
theorem S.call {w0 w w':World}{Γ:List (Nat×Obj)}(h:S w0 w Γ) (he:Ext w w'):S w0 w' Γ:=
 ⟨h.ext.trans he,h.nodup,fun p hp=>⟨(h.at' p hp).1,he.get (h.at' p hp).2⟩⟩
theorem S.obj {w0 w:World}{Γ:List (Nat×Obj)}(h:S w0 w Γ){b:Nat}{o:Obj}(hm:(b,o)∈Γ):w.heap[b]?=some o:=(h.at' _ hm).2
theorem cell_of {w:World}{b i:Nat}{c:Array Value}{t:TypeId}{f:Nat×Nat}{v:Value}(h:w.heap[b]?=some (.cells c t f)) (hv:c[i]?=some v):w.cell? ⟨b,i,none⟩=some v:=by
 simp[World.cell?,h,hv]
theorem S.ld {w0 w:World}{Γ:List (Nat×Obj)}(h:S w0 w Γ){b i:Nat}{c:Array Value}{t:TypeId}{f:Nat×Nat}{v:Value}(hm:(b,.cells c t f)∈Γ) (hv:c[i]?=some v):w.cell? ⟨b,i,none⟩=some v:=
 cell_of (h.obj hm) hv
theorem Alloc.s {w0 w:World}{Γ:List (Nat×Obj)}{c:Array Value}{t:TypeId}{K:Nat→World→Prop}(hS:S w0 w Γ) (h:∀b w',S w0 w' ((b,.cells c t (0,0))::Γ)→K b w'):Alloc c t w K:=
 h _ _ (hS.alloc _)
theorem setBlock_other {w:World}{b b':Nat}{i:Nat}{v:Value}(h:b'≠b):(w.setCell ⟨b,i,none⟩ v).heap[b']?=w.heap[b']?:=by
 show(w.heap.modify b _)[b']?=_
 rw[Array.getElem?_modify,if_neg (Ne.symm h)]
theorem setBlock_same {w:World}{b i:Nat}{c:Array Value}{t:TypeId}{f:Nat×Nat}{v:Value}(h:w.heap[b]?=some (.cells c t f)):
  (w.setCell ⟨b,i,none⟩ v).heap[b]?=some (.cells (c.setIfInBounds i v) t f):=by
 show(w.heap.modify b _)[b]?=_
 rw[Array.getElem?_modify,if_pos rfl,h]
 rfl
inductive Upd (b:Nat) (o':Obj):List (Nat×Obj)→Obj→List (Nat×Obj)→Prop
 |head {o:Obj} {Γ:List (Nat×Obj)}:Upd b o' ((b,o)::Γ) o ((b,o')::Γ)
 |tail {p:Nat×Obj} {Γ Γ':List (Nat×Obj)} {o:Obj} (h:Upd b o' Γ o Γ'):Upd b o' (p::Γ) o (p::Γ')
theorem Upd.mem {b:Nat}{o o':Obj}{Γ Γ':List (Nat×Obj)}(h:Upd b o' Γ o Γ'):(b,o)∈Γ:=by
 induction h with
 |head=>exact List.mem_cons_self
 |tail _ ih=>exact List.mem_cons_of_mem _ ih
theorem Upd.fst {b:Nat}{o o':Obj}{Γ Γ':List (Nat×Obj)}(h:Upd b o' Γ o Γ'):Γ'.map Prod.fst=Γ.map Prod.fst:=by
 induction h with
 |head=>rfl
 |tail _ ih=>simp[ih]
theorem Upd.back {b:Nat}{o o':Obj}{Γ Γ':List (Nat×Obj)}(h:Upd b o' Γ o Γ') (hn:(Γ.map Prod.fst).Nodup):∀p∈Γ',p=(b,o')∨(p∈Γ∧p.1≠b):=by
 induction h with
 |head=>
  intro p hp
  simp only[List.map_cons,List.nodup_cons]at hn
  rcases List.mem_cons.1 hp with rfl|hp
  ·exact .inl rfl
  ·exact .inr ⟨List.mem_cons_of_mem _ hp,fun e=>hn.1 (e▸List.mem_map_of_mem hp)⟩
 |tail h ih=>
  intro p hp
  simp only[List.map_cons,List.nodup_cons]at hn
  rcases List.mem_cons.1 hp with rfl|hp
  ·exact .inr ⟨List.mem_cons_self,fun e=>hn.1 (e▸List.mem_map_of_mem (f:=Prod.fst) h.mem)⟩
  ·rcases ih hn.2 p hp with h1|⟨h1,h2⟩
   ·exact .inl h1
   ·exact .inr ⟨List.mem_cons_of_mem _ h1,h2⟩
theorem S.change {w0 w w':World}{Γ Γ':List (Nat×Obj)}{b:Nat}{o o':Obj}(h:S w0 w Γ) (hu:Upd b o' Γ o Γ') (hos:w'.os=w.os) (hout:w'.output=w.output) (hsz:w.heap.size≤w'.heap.size)
  (hb:w'.heap[b]?=some o') (ho:∀c,c<w.heap.size→c≠b→w'.heap[c]?=w.heap[c]?):S w0 w' Γ':=by
 have hge:=(h.at' _ hu.mem).1
 refine⟨⟨hos.trans h.ext.os,hout.trans h.ext.output,Nat.le_trans h.ext.size hsz,fun c hc=>(ho c (Nat.lt_of_lt_of_le hc h.ext.size) (by simp at hge; omega)).trans (h.ext.heap c hc)⟩,by rw[hu.fst]; exact h.nodup,fun p hp=>?_⟩
 rcases hu.back h.nodup p hp with rfl|⟨h1,h2⟩
 ·exact⟨hge,hb⟩
 ·obtain⟨h3,h4⟩:=h.at' p h1
  exact⟨h3,(ho p.1 (lt_of_heap h4) h2).trans h4⟩
theorem St.s {w0 w:World}{Γ Γ':List (Nat×Obj)}{b i:Nat}{c c':Array Value}{t:TypeId}{v:Value}{K:World→Prop}(hS:S w0 w Γ) (hu:Upd b (.cells c' t (0,0)) Γ (.cells c t (0,0)) Γ') (hi:i<c.size) (hc:c.setIfInBounds i v=c')
  (hv:scalar v=true) (h:∀w',S w0 w' Γ'→K w'):St ⟨b,i,none⟩ v w K:=by
 have hb:=hS.obj hu.mem
 refine⟨⟨c[i],by simp[World.cell?,hb,hi]⟩,by simp[World.frozen?,hb],hv,h _ (hS.change hu rfl rfl ?_ (by rw[setBlock_same hb,hc]) fun d _ hd=>setBlock_other hd)⟩
 show w.heap.size≤(w.heap.modify b _).size
 rw[Array.size_modify]; exact Nat.le_refl _
abbrev Ret (P:Program) (f:FuncId) (args:Array Value) (w:World) (v:Value):Prop:=Calls P f args w fun e w'=>e=.returned v∧Ext w w'
theorem ret_of {P:Program}{f:FuncId}{args:Array Value}{w:World}{v:Value}(h:Calls P f args w fun e w'=>∃u,e=.returned u∧(u=v∧Ext w w')):Ret P f args w v:=
 h.mono fun _ _ ⟨_,he,hu,hx⟩=>⟨hu▸he,hx⟩
theorem lex_s {w0 w:World}{Γ:List (Nat×Obj)}{B:(World→Prop)→Prop}(hS:S w0 w Γ) (h:S w0 w.drew Γ→B (fun w'=>S w0 w' Γ)):∃D:World→Prop,D w.drew∧B D:=⟨fun w'=>S w0 w' Γ,hS.drew,h hS.drew⟩
theorem Ret.useS {P:Program}{f:FuncId}{args:Array Value}{w0 w:World}{Γ:List (Nat×Obj)}{v:Value}{Φ:Ending→World→Prop}(hS:S w0 w Γ) (h:Ret P f args w v) (hk:∀w',S w0 w' Γ→Φ (.returned v) w'):Calls P f args w Φ:=
 h.mono fun _ w' ⟨he,hx⟩=>he▸hk w' (hS.call hx)
theorem wrap64 (n:Int) (h:-9223372036854775808≤n) (h':n≤9223372036854775807):IntKind.i64.wrap n=n:=by
 have e:IntKind.i64.wrap n=if n%18446744073709551616≥9223372036854775808 then n%18446744073709551616-18446744073709551616 else n%18446744073709551616:=by
  unfold IntKind.wrap
  simp[IntKind.bits,IntKind.signed]
 rw[e]
 split<;>omega
theorem dec_t {p:Prop} [Decidable p] {A:Prop}(h:p→A):decide p=true→A:=fun e=>h (of_decide_eq_true e)
theorem dec_f {p:Prop} [Decidable p] {A:Prop}(h:¬p→A):decide p=false→A:=fun e=>h (of_decide_eq_false e)
theorem not_t {b:Bool}{A:Prop}(h:b=false→A):(!b)=true→A:=fun e=>h (by simpa using e)
theorem not_f {b:Bool}{A:Prop}(h:b=true→A):(!b)=false→A:=fun e=>h (by simpa using e)
theorem beq_t {x y:Int}{A:Prop}(h:x=y→A):(x==y)=true→A:=fun e=>h (by simpa using e)
theorem beq_f {x y:Int}{A:Prop}(h:x≠y→A):(x==y)=false→A:=fun e=>h (by simpa using e)
theorem bne_t {x y:Int}{A:Prop}(h:x≠y→A):(x != y)=true→A:=fun e=>h (by simpa using e)
theorem bne_f {x y:Int}{A:Prop}(h:x=y→A):(x != y)=false→A:=fun e=>h (by simpa using e)
theorem retInt {k:IntKind}{a b:Int}(h:a=b):Value.int k a=Value.int k b:=by rw[h]
theorem retBool {a b:Bool}(h:a=b):Value.bool a=Value.bool b:=by rw[h]
theorem min_run {P:Program}{k:IntKind}(ts:Array TypeId) (t:TypeId) (cs:Array Bool) (a b:Int) (w:World):(builtin .min ts t cs #[.int k a,.int k b]).run P w=.ok (.value (.int k (if b<a then b else a))) w:=by
 simp[builtin,Builtin.min_,Builtin.min2]
theorem max_run {P:Program}{k:IntKind}(ts:Array TypeId) (t:TypeId) (cs:Array Bool) (a b:Int) (w:World):(builtin .max ts t cs #[.int k a,.int k b]).run P w=.ok (.value (.int k (if b>a then b else a))) w:=by
 simp[builtin,Builtin.max_,Builtin.max2]
abbrev RetR (w:World) (v:Value):Value→World→Prop:=fun u w'=>u=v∧Ext w w'
structure A where
 foot:List Nat
 holds:(Nat→Option Obj)→Prop
 loc:∀{h h':Nat→Option Obj},(∀b,b∈foot→h' b=h b)→holds h→holds h'
def hp (w:World):Nat→Option Obj:=fun b=>w.heap[b]?
def ob (b:Nat) (o:Obj):A:=⟨[b],fun h=>h b=some o,fun he h=>(he b List.mem_cons_self).trans h⟩
abbrev blk (b:Nat) (c:Array Value) (t:TypeId):A:=ob b (.cells c t (0,0))
structure Chg (F:List Nat) (w w':World):Prop where
 os:w'.os=w.os
 output:w'.output=w.output
 size:w.heap.size≤w'.heap.size
 heap:∀b,b<w.heap.size→b∉F→w'.heap[b]?=w.heap[b]?
theorem Chg.refl (F:List Nat) (w:World):Chg F w w:=⟨rfl,rfl,Nat.le_refl _,fun _ _ _=>rfl⟩
theorem Chg.ext {w w':World}(h:Chg [] w w'):Ext w w':=⟨h.os,h.output,h.size,fun b hb=>h.heap b hb (by simp)⟩
theorem Ext.chg {w w':World}(h:Ext w w') (F:List Nat):Chg F w w':=⟨h.os,h.output,h.size,fun b hb _=>h.heap b hb⟩
def feet:List A→List Nat
 |[]=>[]
 |a::Γ=>a.foot++feet Γ
theorem feet_append (Γ Δ:List A):feet (Γ++Δ)=feet Γ++feet Δ:=by
 induction Γ with
 |nil=>rfl
 |cons a Γ ih=>simp[feet,ih]
theorem feet_mem {Γ:List A}{a:A}(h:a∈Γ){b:Nat}(hb:b∈a.foot):b∈feet Γ:=by
 induction h with
 |head=>exact List.mem_append_left _ hb
 |tail _ _ ih=>exact List.mem_append_right _ ih
structure T (F:List Nat) (w0 w:World) (Γ:List A):Prop where
 chg:Chg F w0 w
 nodup:(feet Γ).Nodup
 own:∀b,b∈feet Γ→b<w.heap.size∧(b∈F∨w0.heap.size≤b)
 holds:∀a,a∈Γ→a.holds (hp w)
theorem T.nil (w:World):T [] w w []:=⟨.refl _ w,by simp[feet],fun b hb=>(by cases hb),fun a ha=>(by cases ha)⟩
structure Has (w:World) (Γ:List A):Prop where
 nodup:(feet Γ).Nodup
 lt:∀b,b∈feet Γ→b<w.heap.size
 holds:∀a,a∈Γ→a.holds (hp w)
theorem Has.start {w:World}{Γ:List A}(h:Has w Γ):T (feet Γ) w w Γ:=⟨.refl _ w,h.nodup,fun b hb=>⟨h.lt b hb,.inl hb⟩,h.holds⟩
theorem T.drew {F:List Nat}{w0 w:World}{Γ:List A}(h:T F w0 w Γ):T F w0 w.drew Γ:=⟨⟨h.chg.os,h.chg.output,h.chg.size,h.chg.heap⟩,h.nodup,h.own,h.holds⟩
theorem A.keep {a:A}{w w':World}(h:a.holds (hp w)) (he:∀b,b∈a.foot→w'.heap[b]?=w.heap[b]?):a.holds (hp w'):=a.loc he h
theorem T.alloc {F:List Nat}{w0 w:World}{Γ:List A}(h:T F w0 w Γ) (o:Obj):T F w0 (w.alloc o) (ob w.heap.size o::Γ):=by
 have hsz:(w.alloc o).heap.size=w.heap.size+1:=by show(w.heap.push o).size=_; rw[Array.size_push]
 have hold:∀b,b<w.heap.size→(w.alloc o).heap[b]?=w.heap[b]?:=fun b hb=>by
  show(w.heap.push o)[b]?=_
  rw[Array.getElem?_push,if_neg (by omega)]
 refine⟨⟨h.chg.os,h.chg.output,by have:=h.chg.size; omega,fun b hb hn=>(hold b (Nat.lt_of_lt_of_le hb h.chg.size)).trans (h.chg.heap b hb hn)⟩,?_,?_,?_⟩
 ·refine List.nodup_cons.2 ⟨fun hm=>?_,h.nodup⟩
  have:=(h.own _ hm).1
  omega
 ·intro b hb
  rcases List.mem_cons.1 hb with rfl|hb
  ·exact⟨by omega,.inr h.chg.size⟩
  ·exact⟨by have:=(h.own _ hb).1; omega,(h.own _ hb).2⟩
 ·intro a ha
  rcases List.mem_cons.1 ha with rfl|ha
  ·show(w.heap.push o)[w.heap.size]?=_
   simp
  ·exact A.keep (h.holds a ha) fun b hb=>hold b (h.own b (feet_mem ha hb)).1
theorem T.drop {F:List Nat}{w0 w:World}{Γ:List A}{a:A}(h:T F w0 w (a::Γ)):T F w0 w Γ:=
 ⟨h.chg,(List.nodup_append.1 h.nodup).2.1,fun b hb=>h.own b (List.mem_append_right _ hb),fun x hx=>h.holds x (List.mem_cons_of_mem _ hx)⟩
theorem T.swap {F:List Nat}{w0 w:World}{Γ Γ':List A}(h:T F w0 w Γ) (hp:Γ.Perm Γ'):T F w0 w Γ':=by
 have hf:(feet Γ).Perm (feet Γ'):=by
  clear h
  induction hp with
  |nil=>exact .refl _
  |cons a _ ih=>exact .append_left _ ih
  |swap a b l=>
   show(b.foot++(a.foot++feet l)).Perm (a.foot++(b.foot++feet l))
   rw[←List.append_assoc,←List.append_assoc]
   exact List.perm_append_comm.append_right _
  |trans _ _ h1 h2=>exact h1.trans h2
 exact⟨h.chg,hf.nodup_iff.1 h.nodup,fun b hb=>h.own b (hf.mem_iff.2 hb),fun a ha=>h.holds a (hp.mem_iff.2 ha)⟩
inductive Pick (a:A):List A→List A→Prop
 |head {Γ:List A}:Pick a (a::Γ) Γ
 |tail {x:A} {Γ Δ:List A} (h:Pick a Γ Δ):Pick a (x::Γ) (x::Δ)
theorem Pick.perm {a:A}{Γ Δ:List A}(h:Pick a Γ Δ):Γ.Perm (a::Δ):=by
 induction h with
 |head=>exact .refl _
 |tail _ ih=>exact(List.Perm.cons _ ih).trans (.swap _ _ _)
theorem T.pick {F:List Nat}{w0 w:World}{Γ Δ:List A}{a:A}(h:T F w0 w Γ) (hk:Pick a Γ Δ):T F w0 w (a::Δ):=h.swap hk.perm
theorem T.call {F:List Nat}{w0 w w':World}{Γ Γ' Δ:List A}(h:T F w0 w (Γ++Δ)) (hc:T (feet Γ) w w' Γ'):T F w0 w' (Γ'++Δ):=by
 have hd:=h.nodup
 rw[feet_append,List.nodup_append]at hd
 have hΔ:∀b,b∈feet Δ→b<w.heap.size∧b∉feet Γ:=fun b hb=>⟨(h.own b (by rw[feet_append]; exact List.mem_append_right _ hb)).1,fun hm=>hd.2.2 b hm b hb rfl⟩
 have hΓ:∀b,b∈feet Γ→b∈F∨w0.heap.size≤b:=fun b hb=>(h.own b (by rw[feet_append]; exact List.mem_append_left _ hb)).2
 refine⟨⟨hc.chg.os.trans h.chg.os,hc.chg.output.trans h.chg.output,Nat.le_trans h.chg.size hc.chg.size,fun b hb hn=>?_⟩,?_,?_,?_⟩
 ·refine(hc.chg.heap b (Nat.lt_of_lt_of_le hb h.chg.size) fun hm=>?_).trans (h.chg.heap b hb hn)
  rcases hΓ b hm with h1|h1
  ·exact hn h1
  ·omega
 ·rw[feet_append,List.nodup_append]
  refine⟨hc.nodup,hd.2.1,fun x hx y hy he=>?_⟩
  subst he
  rcases(hc.own x hx).2 with h1|h1
  ·exact(hΔ x hy).2 h1
  ·have:=(hΔ x hy).1; omega
 ·intro b hb
  rw[feet_append]at hb
  rcases List.mem_append.1 hb with hb|hb
  ·refine⟨(hc.own b hb).1,?_⟩
   rcases(hc.own b hb).2 with h1|h1
   ·exact hΓ b h1
   ·exact .inr (Nat.le_trans h.chg.size h1)
  ·exact⟨Nat.lt_of_lt_of_le (hΔ b hb).1 hc.chg.size,(h.own b (by rw[feet_append]; exact List.mem_append_right _ hb)).2⟩
 ·intro a ha
  rcases List.mem_append.1 ha with ha|ha
  ·exact hc.holds a ha
  ·exact A.keep (h.holds a (List.mem_append_right _ ha)) fun b hb=>by
    have hb':=feet_mem ha hb
    exact hc.chg.heap b (hΔ b hb').1 (hΔ b hb').2
theorem T.quiet {F:List Nat}{w0 w w':World}{Γ:List A}(h:T F w0 w Γ) (he:Ext w w'):T F w0 w' Γ:=by
 have h1:T F w0 w ([]++Γ):=h
 exact T.call (Γ':=[]) h1 ⟨he.chg _,by simp[feet],fun b hb=>(by cases hb),fun a ha=>(by cases ha)⟩
theorem T.got {F:List Nat}{w0 w:World}{Γ:List A}(h:T F w0 w Γ){b:Nat}{o:Obj}(hm:ob b o∈Γ):w.heap[b]?=some o:=h.holds _ hm
theorem T.ld {F:List Nat}{w0 w:World}{Γ:List A}(h:T F w0 w Γ){b i:Nat}{c:Array Value}{t:TypeId}{f:Nat×Nat}{v:Value}(hm:ob b (.cells c t f)∈Γ) (hv:c[i]?=some v):w.cell? ⟨b,i,none⟩=some v:=
 cell_of (h.got hm) hv
inductive Turn (x y:A):List A→List A→Prop
 |head {Γ:List A}:Turn x y (x::Γ) (y::Γ)
 |tail {z:A} {Γ Δ:List A} (h:Turn x y Γ Δ):Turn x y (z::Γ) (z::Δ)
theorem Turn.perm {x y:A}{Γ Γ':List A}(h:Turn x y Γ Γ'):∃Δ,Γ.Perm (x::Δ)∧(y::Δ).Perm Γ':=by
 induction h with
 |head=>exact⟨_,.refl _,.refl _⟩
 |tail _ ih=>
  obtain⟨Δ,h1,h2⟩:=ih
  exact⟨_::Δ,(List.Perm.cons _ h1).trans (.swap _ _ _),(List.Perm.swap _ _ _).trans (.cons _ h2)⟩
theorem T.change {F:List Nat}{w0 w w':World}{Γ Γ':List A}{b:Nat}{o o':Obj}(h:T F w0 w Γ) (hu:Turn (ob b o) (ob b o') Γ Γ') (hos:w'.os=w.os) (hout:w'.output=w.output) (hsz:w'.heap.size=w.heap.size)
  (hb:w'.heap[b]?=some o') (ho:∀c,c≠b→w'.heap[c]?=w.heap[c]?):T F w0 w' Γ':=by
 obtain⟨Δ,h1,h2⟩:=hu.perm
 have h3:T F w0 w ([ob b o]++Δ):=h.swap h1
 refine(T.call (Γ':=[ob b o']) h3 ⟨⟨hos,hout,by omega,fun c _ hn=>ho c fun e=>hn (by simp[feet,ob,e])⟩,by simp[feet,ob],fun c hc=>?_,fun a ha=>?_⟩).swap h2
 ·obtain rfl:c=b:=by simpa[feet,ob] using hc
  exact⟨(Array.getElem?_eq_some_iff.1 hb).1,.inl (by simp[feet,ob])⟩
 ·obtain rfl:a=ob b o':=by simpa using ha
  exact hb
theorem Alloc.t {F:List Nat}{w0 w:World}{Γ:List A}{c:Array Value}{t:TypeId}{K:Nat→World→Prop}(hT:T F w0 w Γ) (h:∀b w',T F w0 w' (blk b c t::Γ)→K b w'):Alloc c t w K:=h _ _ (hT.alloc _)
theorem AllocM.t {F:List Nat}{w0 w:World}{Γ:List A}{K:Nat→World→Prop}(hT:T F w0 w Γ) (h:∀b w',T F w0 w' (ob b (.map #[] 0)::Γ)→K b w'):AllocM w K:=h _ _ (hT.alloc _)
theorem St.t {F:List Nat}{w0 w:World}{Γ Γ':List A}{b i:Nat}{c c':Array Value}{t:TypeId}{v:Value}{K:World→Prop}(hT:T F w0 w Γ) (hu:Turn (blk b c t) (blk b c' t) Γ Γ') (hi:i<c.size) (hc:c.setIfInBounds i v=c')
  (hv:scalar v=true) (h:∀w',T F w0 w' Γ'→K w'):St ⟨b,i,none⟩ v w K:=by
 obtain⟨Δ,h1,_⟩:=hu.perm
 have hb:w.heap[b]?=some (.cells c t (0,0)):=hT.got (h1.mem_iff.2 List.mem_cons_self)
 refine⟨⟨c[i],by simp[World.cell?,hb,hi]⟩,by simp[World.frozen?,hb],hv,h _ (hT.change hu rfl rfl ?_ (by rw[setBlock_same hb,hc]) fun d hd=>setBlock_other hd)⟩
 show(w.heap.modify b _).size=_
 rw[Array.size_modify]
theorem lex_t {F:List Nat}{w0 w:World}{Γ:List A}{B:(World→Prop)→Prop}(hT:T F w0 w Γ) (h:T F w0 w.drew Γ→B (fun w'=>T F w0 w' Γ)):∃D:World→Prop,D w.drew∧B D:=⟨fun w'=>T F w0 w' Γ,hT.drew,h hT.drew⟩
theorem Ret.useT {P:Program}{f:FuncId}{args:Array Value}{F:List Nat}{w0 w:World}{Γ:List A}{v:Value}{Φ:Ending→World→Prop}(hT:T F w0 w Γ) (h:Ret P f args w v) (hk:∀w',T F w0 w' Γ→Φ (.returned v) w'):Calls P f args w Φ:=
 h.mono fun _ w' ⟨he,hx⟩=>he▸hk w' (hT.quiet hx)
theorem addr_add (b o n:Nat):Addr.add ⟨b,o,none⟩ n=⟨b,o+n,none⟩:=by simp[Addr.add]
theorem T.weak {F:List Nat}{w0 w:World}{Γ:List A}{x y:A}(h:T F w0 w (x::Γ)) (hf:y.foot=x.foot) (hh:∀g,x.holds g→y.holds g):T F w0 w (y::Γ):=by
 have hfe:feet (y::Γ)=feet (x::Γ):=by simp[feet,hf]
 refine⟨h.chg,hfe▸h.nodup,hfe▸h.own,fun a ha=>?_⟩
 rcases List.mem_cons.1 ha with rfl|ha
 ·exact hh _ (h.holds _ List.mem_cons_self)
 ·exact h.holds a (List.mem_cons_of_mem _ ha)
theorem T.says {F:List Nat}{w0 w:World}{Γ:List A}{x:A}(h:T F w0 w Γ) (hm:x∈Γ):x.holds (hp w):=h.holds x hm
def putAt (c:Array Value) (o:Nat):List Value→Array Value
 |[]=>c
 |v::l=>putAt (c.setIfInBounds o v) (o+1) l
theorem putAt_get (l:List Value):∀(c:Array Value) (o j:Nat),(putAt c o l)[j]?=if o≤j∧j<o+l.length∧j<c.size then l[j-o]? else c[j]?:=by
 induction l with
 |nil=>
  intro c o j
  rw[if_neg (by simp; omega)]
  rfl
 |cons v l ih=>
  intro c o j
  simp only[putAt,ih,Array.size_setIfInBounds,List.length_cons]
  by_cases h1:o=j
  ·subst h1
   rw[if_neg (by omega)]
   by_cases h2:o<c.size
   ·rw[if_pos (by omega)]; simp[h2]
   ·rw[if_neg (by omega)]; simp[h2]
  ·by_cases h2:o+1≤j∧j<o+1+l.length∧j<c.size
   ·rw[if_pos h2,if_pos (by omega),show j-o=(j-(o+1))+1 by omega,List.getElem?_cons_succ]
   ·rw[if_neg h2,if_neg (by omega),Array.getElem?_setIfInBounds,if_neg h1]
theorem StL.t {F:List Nat}{w0:World}{Δ:List A}{b o:Nat}{t:TypeId}{K:World→Prop}:∀(l:List Value) (i:Nat) (c:Array Value) (w:World),T F w0 w (blk b c t::Δ)→(∀v∈l,scalar v=true)→o+i+l.length≤c.size→
  (∀w',T F w0 w' (blk b (putAt c (o+i) l) t::Δ)→K w')→StL ⟨b,o,none⟩ K l i w
 |[],i,c,w,hT,_,_,h=>h w hT
 |v::l,i,c,w,hT,hv,hl,h=>by
  simp only[List.length_cons]at hl
  rw[StL,addr_add]
  refine St.t hT .head (by omega) rfl (hv v List.mem_cons_self) fun w' hT'=>?_
  refine StL.t l (i+1) _ w' hT' (fun u hu=>hv u (List.mem_cons_of_mem _ hu)) (by simp; omega) fun w2 hT2=>h w2 ?_
  simpa only[putAt,Nat.add_assoc] using hT2
theorem stBig.t {P:Program}{t0:TypeId}{i:TypeInfo}{F:List Nat}{w0 w:World}{Γ Δ:List A}{b o:Nat}{c cs:Array Value}{t:TypeId}{K:SV→World→Prop}(hT:T F w0 w Γ) (hk:Pick (blk b c t) Γ Δ) (hi:P.info? t0=some i) (hs:cs.size=P.cellsOf t0)
  (hv:∀v∈cs.toList,scalar v=true) (hl:o+cs.size≤c.size) (h:∀w',T F w0 w' (blk b (putAt c o cs.toList) t::Δ)→K (.v undef) w'):stBig P t0 ⟨b,o,none⟩ (.agg cs) K w:=by
 have h1:StL ⟨b,o,none⟩ (fun w'=>T F w0 w' (blk b (putAt c o cs.toList) t::Δ)) cs.toList 0 w:=StL.t cs.toList 0 c w (hT.pick hk) hv (by simpa using hl) fun w' hT'=>hT'
 obtain⟨w',hr,hT'⟩:=StL_run (P:=P) h1
 exact⟨w',storeAgg_run hi hs hr,h w' hT'⟩
theorem T.big {F:List Nat}{w0 w:World}{Γ:List A}{b o:Nat}{c cs:Array Value}{t:TypeId}{f:Nat×Nat}(h:T F w0 w Γ) (hm:ob b (.cells c t f)∈Γ) (hc:∀i,i<cs.size→c[o+i]?=cs[i]?):bigAt w ⟨b,o,none⟩ cs:=by
 intro i hi
 rw[addr_add]
 have:cs[i]?=some cs[i]:=by simp[hi]
 rw[this]
 exact h.ld hm ((hc i hi).trans this)
abbrev ptr (g:Option Nat):Option Addr:=g.map fun g=>⟨g,0,none⟩
def rowP (e:TypeId) (size:Nat) (g:Option Nat) (n cap:Nat) (xs:List Value):A where
 foot:=g.toList
 holds h:=xs.length=n*size∧n≤cap∧cap≤maxLen∧match g with
  |none=>cap=0
  |some g=>∃cur,h g=some (.cells cur e (0,0))∧cur.size=cap*size∧cur.toList.take (n*size)=xs
 loc:=by
  intro h h' he hh
  refine⟨hh.1,hh.2.1,hh.2.2.1,?_⟩
  cases g with
  |none=>exact hh.2.2.2
  |some g=>
   obtain⟨cur,h1,h2⟩:=hh.2.2.2
   exact⟨cur,(he g (by simp)).trans h1,h2⟩
theorem rowP.pos {e:TypeId}{size n cap:Nat}{g:Option Nat}{xs:List Value}{h:Nat→Option Obj}(hh:(rowP e size g n cap xs).holds h) (hn:0<n):∃b,g=some b:=by
 cases g with
 |none=>
  have h1:cap=0:=hh.2.2.2
  have h2:n≤cap:=hh.2.1
  omega
 |some b=>exact⟨b,rfl⟩
theorem rowP.len {e:TypeId}{size n cap:Nat}{g:Option Nat}{xs:List Value}{h:Nat→Option Obj}(hh:(rowP e size g n cap xs).holds h):xs.length=n*size:=hh.1
theorem rowP.cell {w:World}{e:TypeId}{size n cap b:Nat}{xs:List Value}(hh:(rowP e size (some b) n cap xs).holds (hp w)){k:Nat}{v:Value}(hk:xs[k]?=some v):w.cell? ⟨b,k,none⟩=some v:=by
 obtain⟨h1,_,_,cur,h2,_,h4⟩:=hh
 refine cell_of h2 ?_
 rw[←h4,List.getElem?_take]at hk
 split at hk
 ·simpa using hk
 ·cases hk
theorem T.fresh {F:List Nat}{w0 w:World}{Γ:List A}{b:Nat}{c:Array Value}{t:TypeId}{size n:Nat}(h:T F w0 w (blk b c t::Γ)) (hc:c.size=n*size) (hn:n≤maxLen):T F w0 w (rowP t size (some b) n n c.toList::Γ):=
 h.weak rfl fun g hg=>⟨by rw[Array.length_toList,hc],Nat.le_refl _,hn,c,hg,hc,by rw[←hc,←Array.length_toList,List.take_length]⟩
theorem T.nilRow {F:List Nat}{w0 w:World}{Γ:List A}(h:T F w0 w Γ) (e:TypeId) (size:Nat):T F w0 w (rowP e size none 0 0 []::Γ):=
 ⟨h.chg,by simpa[feet,rowP] using h.nodup,fun b hb=>h.own b (by simpa[feet,rowP] using hb),fun a ha=>by
  rcases List.mem_cons.1 ha with rfl|ha
  ·exact⟨(Nat.zero_mul _).symm,Nat.le_refl _,Nat.zero_le _,rfl⟩
  ·exact h.holds a ha⟩
theorem T.turn {F:List Nat}{w0 w w':World}{Δ:List A}{x y:A}(h:T F w0 w (x::Δ)) (hos:w'.os=w.os) (hout:w'.output=w.output) (hsz:w.heap.size≤w'.heap.size)
  (ho:∀c,c<w.heap.size→c∉x.foot→w'.heap[c]?=w.heap[c]?) (hn:y.foot.Nodup) (hy:∀c,c∈y.foot→c<w'.heap.size∧(c∈x.foot∨w.heap.size≤c)) (hh:y.holds (hp w')):T F w0 w' (y::Δ):=by
 have h1:T F w0 w ([x]++Δ):=h
 refine T.call (Γ':=[y]) h1 ⟨⟨hos,hout,hsz,fun b hb hm=>ho b hb (by simpa[feet] using hm)⟩,by simpa[feet] using hn,fun b hb=>by simpa[feet] using hy b (by simpa[feet] using hb),fun a ha=>?_⟩
 obtain rfl:a=y:=by simpa using ha
 exact hh
theorem StRow.t {F:List Nat}{w0 w:World}{Γ Δ:List A}{e:TypeId}{size n cap b k:Nat}{xs:List Value}{v:Value}{K:World→Prop}(hT:T F w0 w Γ) (hk:Pick (rowP e size (some b) n cap xs) Γ Δ) (hkl:k<xs.length) (hv:scalar v=true)
  (h:∀w',T F w0 w' (rowP e size (some b) n cap (xs.set k v)::Δ)→K w'):St ⟨b,k,none⟩ v w K:=by
 have hT1:=hT.pick hk
 obtain⟨h1,h2,h3,cur,h4,h5,h6⟩:=hT1.says List.mem_cons_self
 have h4':w.heap[b]?=some (.cells cur e (0,0)):=h4
 have hkc:k<cur.size:=by
  have:xs.length≤cur.size:=by rw[←h6]; simp[Nat.min_le_right]
  omega
 have hb:b<w.heap.size:=lt_of_heap h4'
 refine⟨⟨cur[k],by simp[World.cell?,h4',hkc]⟩,by simp[World.frozen?,h4'],hv,h _ (hT1.turn rfl rfl ?_ (fun c hc hn=>setBlock_other fun e=>hn (by simp[rowP,e])) (by simp[rowP]) ?_ ?_)⟩
 ·show w.heap.size≤(w.heap.modify b _).size
  rw[Array.size_modify]; exact Nat.le_refl _
 ·intro c hc
  obtain rfl:c=b:=by simpa[rowP] using hc
  refine⟨?_,.inl (by simp[rowP])⟩
  show c<(w.heap.modify c _).size
  rw[Array.size_modify]; exact hb
 ·refine⟨by simpa using h1,h2,h3,_,setBlock_same h4',by simpa using h5,?_⟩
  rw[←h6,Array.toList_setIfInBounds,List.take_set]
theorem append_t {P:Program}{F:List Nat}{w0 w:World}{Γ Δ:List A}{t ty e:TypeId}{i:TypeInfo}{z:Value}{size:Nat}(cs:Array Bool) (ht:P.underlying t=some (.slice e)) (hi:P.info? e=some i) (hz:i.zero=some z) (hsize:i.size=size) (hzs:z.cells.size=size)
  {g:Option Nat} {n cap:Nat} {xs:List Value} (hT:T F w0 w Γ) (hk:Pick (rowP e size g n cap xs) Γ Δ) {a:Addr} {m c:Nat} {news:List Value} (hl:news.length=m*size) (hnews:∀j u,news[j]?=some u→w.cell? (a.add j)=some u) (h1:∀u∈news,u.oneCell'=true)
  (h63:n+m≤maxLen) (hbytes:(n+m)*i.bytes≤140737488355328):
  ∃g' cap' w',(builtin .append #[t,t] ty cs #[.slice (ptr g) n cap,.slice (some a) m c]).run P w=.ok (.value (.slice (ptr g') (n+m) cap')) w'∧T F w0 w' (rowP e size g' (n+m) cap' (xs++news)::Δ):=by
 subst hsize
 have hT1:=hT.pick hk
 obtain⟨k1,k2,k3,k4⟩:=hT1.says List.mem_cons_self
 have hlen:(xs++news).length=(n+m)*i.size:=by rw[List.length_append,k1,hl,Nat.add_mul]
 have hsmall:n+m≤9223372036854775807:=by simp only[maxLen]at h63; omega
 have toB:∀{v:Value} {w':World},(Builtin.append_ #[t,t] ty #[.slice (ptr g) n cap,.slice (some a) m c]).run P w=.ok v w'→(builtin .append #[t,t] ty cs #[.slice (ptr g) n cap,.slice (some a) m c]).run P w=.ok (.value v) w':=by
  intro v w' h
  simp[builtin,h,Result.andThen]
 have grown:∀(old:Nat),old<n+m→
   T F w0 (w.drew.alloc (.cells (xs.toArray++news.toArray++Builtin.zeroCells z.cells (grownCap w (n+m) old e-(n+m))) e)) (rowP e i.size (some w.heap.size) (n+m) (grownCap w (n+m) old e) (xs++news)::Δ):=by
  intro old ho
  have hge:=grownCap_ge w (n+m) old e
  have hcm:grownCap w (n+m) old e≤maxLen:=grownCap_le_maxLen w (n+m) old e h63
  have h2:T F w0 w Δ:=hT1.drop
  have h3:=h2.drew.alloc (.cells (xs.toArray++news.toArray++Builtin.zeroCells z.cells (grownCap w (n+m) old e-(n+m))) e)
  refine h3.weak rfl fun q hq=>⟨hlen,hge,hcm,_,hq,?_,?_⟩
  ·simp only[Array.size_append,List.size_toArray,size_zeroCells,hzs,k1,hl,←Nat.add_mul]
   congr 1
   omega
  ·simp only[Array.toList_append,List.append_assoc]
   rw[←List.append_assoc,←hlen]
   exact List.take_left
 cases g with
 |none=>
  obtain rfl:cap=0:=k4
  obtain rfl:n=0:=by omega
  have hx:xs=[]:=List.eq_nil_of_length_eq_zero (by simpa using k1)
  subst hx
  by_cases hm:m=0
  ·subst hm
   have hn:news=[]:=List.eq_nil_of_length_eq_zero (by simpa using hl)
   subst hn
   refine⟨none,0,w,toB ?_,hT1⟩
   simp[Builtin.append_,run_underlying ht,sizeOf,typeInfo,hi,Builtin.lenOf,Builtin.firstCells,loadCells,loadCellsFrom]
  ·have hr:=run_append_nil (P:=P) w t ty e i z ht hi hz a m c news hl hnews (by omega) (by omega) (by have hb:=hbytes; simp only[Nat.zero_add]at hb; omega)
   have hgr:=grown 0 (by omega)
   simp only[Nat.zero_add,List.nil_append,Array.empty_append]at hgr⊢
   exact⟨some w.heap.size,_,_,toB hr,hgr⟩
 |some g=>
  obtain⟨cur,hg,hcs,htake⟩:=k4
  by_cases hroom:n+m≤cap
  ·have hfit:n*i.size+news.length≤cur.size:=by rw[hl,hcs,←Nat.add_mul]; exact Nat.mul_le_mul_right _ hroom
   have hr:=run_append_room (P:=P) w t ty e i ht hi g n cap cur hg a m c news hl hnews h1 hroom hfit
   have hgl:g<w.heap.size:=lt_of_heap hg
   refine⟨some g,cap,_,toB hr,hT1.turn rfl rfl (by simp) (fun q hq hne=>setRow_other w g q _ fun e=>hne (by simp[rowP,e])) (by simp[rowP]) (fun q hq=>?_) ⟨hlen,hroom,k3,_,setRow_heap w g cur _ e _ hg,?_,?_⟩⟩
   ·obtain rfl:q=g:=by simpa[rowP] using hq
    exact⟨by simpa using hgl,.inl (by simp[rowP])⟩
   ·simp only[List.size_toArray,List.length_append,List.length_take,List.length_drop,Array.length_toList]
    omega
   ·rw[htake,←hlen]
    exact List.take_left
  ·have holds:∀j u,xs[j]?=some u→w.cell? ((⟨g,0,none⟩:Addr).add j)=some u:=fun j u hu=>by
    rw[addr_add,Nat.zero_add]
    exact rowP.cell (hT1.says List.mem_cons_self) hu
   have hr:=run_append_grow (P:=P) w t ty e i z ht hi hz ⟨g,0,none⟩ n cap xs k1 holds a m c news hl hnews (by omega) (by omega) (growslice_fits (by omega) hbytes)
   exact⟨some w.heap.size,_,_,toB hr,grown cap (by omega)⟩
abbrev Ent:=Int×Value×Nat
def ent (x:Ent):MapEntry:=⟨.int .i64 x.1,x.2.1,x.2.2⟩
abbrev mapP (b:Nat) (l:List Ent) (clock:Nat):A:=ob b (.map (l.map ent).toArray clock)
def findAt (k:Int):List Ent→Nat→Option (Nat×Value)
 |[],_=>none
 |x::l,i=>if x.1=k then some (i,x.2.1) else findAt k l (i+1)
def setK (k:Int) (v:Value):List Ent→List Ent
 |[]=>[]
 |x::l=>if x.1=k then (k,v,x.2.2)::l else x::setK k v l
def eraseK (k:Int):List Ent→List Ent
 |[]=>[]
 |x::l=>if x.1=k then l else x::eraseK k l
def getK (k:Int):List Ent→Option Value
 |[]=>none
 |x::l=>if x.1=k then some x.2.1 else getK k l
theorem findAt_getK (k:Int):∀(l:List Ent) (i:Nat),(findAt k l i).map Prod.snd=getK k l
 |[],_=>rfl
 |x::l,i=>by simp only[findAt,getK]; split<;>simp[findAt_getK k l]
theorem findNow_ints (k:Int):∀(l:List Ent) (i:Nat),Instr.findNow (.int .i64) (.int .i64 k) (l.map ent) i=some (findAt k l i)
 |[],_=>rfl
 |x::l,i=>by
  simp only[List.map_cons,Instr.findNow,Instr.sameNow,ent,findAt,if_true]
  by_cases h:x.1=k
  ·simp[h]
  ·have:(k==x.1)=false:=by simp; exact fun e=>h e.symm
   simp only[this,if_neg h]
   exact findNow_ints k l (i+1)
theorem checkKey_succ {P:Program}{t:TypeId}(ht:P.underlying t=some (.int .i64)) (b:Bool) (k:Int) (w:World) (n:Nat):(Instr.checkKey b (n+1) t (.int .i64 k)).run P w=.ok () w:=by
 simp[Instr.checkKey,run_underlying ht]
theorem checkKey_int {P:Program}{t:TypeId}(ht:P.underlying t=some (.int .i64)) (b:Bool) (k:Int) (w:World):(Instr.checkKey b 10000 t (.int .i64 k)).run P w=.ok () w:=checkKey_succ ht b k w 9999
theorem findKey_ints {P:Program}{t:TypeId}(ht:P.underlying t=some (.int .i64)) (k:Int) (l:List Ent) (w:World):(Instr.findKey t (.int .i64 k) (l.map ent)).run P w=.ok (findAt k l 0) w:=by
 simp[Instr.findKey,run_underlying ht,findNow_ints]
theorem lookup_ints {P:Program}{t kt e:TypeId}{z:Value}{w:World}(ht:P.underlying t=some (.map kt e)) (hk:P.underlying kt=some (.int .i64)) (hz:(zeroValue e).run P w=.ok z w){b clock:Nat}{l:List Ent}(hb:w.heap[b]?=some (.map (l.map ent).toArray clock)) (k:Int):
  (Instr.lookup t (.map (some b)) (.int .i64 k) false).run P w=.ok ((getK k l).getD z) w:=by
 have h1:=checkKey_int (P:=P) hk (l.map ent).toArray.isEmpty k w
 have h2:=findKey_ints (P:=P) hk k l w
 have h3:=findAt_getK k l 0
 simp only[Instr.lookup,Sem.run_bind,run_underlying ht,Result.andThen_ok,getObj,Sem.run,hb,Sem.run_pure,h1,h2]
 cases hf:findAt k l 0 with
 |none=>rw[hf]at h3; simp[←h3,hz]
 |some x=>rw[hf]at h3; simp[←h3]
theorem setObj_run {P:Program}{w:World}{b:Nat}{o o':Obj}(hb:w.heap[b]?=some o) (hc:∀c t f,o≠.cells c t f):(setObj b o').run P w=.ok () { w with heap:=w.heap.setIfInBounds b o' }:=by
 cases o<;>first|(exact absurd rfl (hc _ _ _))|simp[setObj,Sem.run,hb]
theorem getObj_map {P:Program}{w:World}{b:Nat}{es:Array MapEntry}{c:Nat}(hb:w.heap[b]?=some (.map es c)):(getObj b).run P w=.ok (.map es c) w:=by simp[getObj,Sem.run,hb]
theorem T.set {F:List Nat}{w0 w:World}{Γ Γ':List A}{b:Nat}{o o':Obj}(h:T F w0 w Γ) (hu:Turn (ob b o) (ob b o') Γ Γ'):T F w0 { w with heap:=w.heap.setIfInBounds b o' } Γ':=by
 obtain⟨Δ,h1,_⟩:=hu.perm
 have hb:w.heap[b]?=some o:=h.got (h1.mem_iff.2 List.mem_cons_self)
 have hl:=lt_of_heap hb
 refine h.change hu rfl rfl (by simp) ?_ fun c hc=>?_
 ·show(w.heap.setIfInBounds b o')[b]?=_
  simp[hl]
 ·show(w.heap.setIfInBounds b o')[c]?=_
  rw[Array.getElem?_setIfInBounds,if_neg (fun e=>hc e.symm)]
theorem findAt_lt (k:Int):∀(l:List Ent) (i j:Nat) (v:Value),findAt k l i=some (j,v)→i≤j∧∃x,l[j-i]?=some x∧x.1=k
 |[],_,_,_,h=>by cases h
 |x::l,i,j,v,h=>by
  simp only[findAt]at h
  split at h
  ·rename_i hx
   obtain⟨rfl,rfl⟩:=by simpa using h
   exact⟨Nat.le_refl _,x,by simp,hx⟩
  ·obtain⟨h1,y,h2,h3⟩:=findAt_lt k l (i+1) j v h
   exact⟨by omega,y,by rw[show j-i=(j-(i+1))+1 by omega,List.getElem?_cons_succ]; exact h2,h3⟩
theorem modify_set (k:Int) (u:Value):∀(l:List Ent) (i j:Nat) (v:Value),findAt k l i=some (j,v)→(l.map ent).modify (j-i) (fun e=>{ e with key:=.int .i64 k,val:=u })=(setK k u l).map ent
 |[],_,_,_,h=>by cases h
 |x::l,i,j,v,h=>by
  simp only[findAt]at h
  split at h
  ·rename_i hx
   obtain⟨rfl,rfl⟩:=by simpa using h
   simp[setK,hx,ent]
  ·rename_i hx
   have h1:=(findAt_lt k l (i+1) j v h).1
   have h2:=modify_set k u l (i+1) j v h
   rw[show j-i=(j-(i+1))+1 by omega]
   simp only[List.map_cons,List.modify_succ_cons,setK,if_neg hx,h2]
theorem erase_set (k:Int):∀(l:List Ent) (i j:Nat) (v:Value),findAt k l i=some (j,v)→(l.map ent).eraseIdx (j-i)=(eraseK k l).map ent
 |[],_,_,_,h=>by cases h
 |x::l,i,j,v,h=>by
  simp only[findAt]at h
  split at h
  ·rename_i hx
   obtain⟨rfl,rfl⟩:=by simpa using h
   simp[eraseK,hx]
  ·rename_i hx
   have h1:=(findAt_lt k l (i+1) j v h).1
   have h2:=erase_set k l (i+1) j v h
   rw[show j-i=(j-(i+1))+1 by omega]
   simp only[List.map_cons,List.eraseIdx_cons_succ,eraseK,if_neg hx,h2]
theorem findAt_none {k:Int}:∀{l:List Ent}{i:Nat},findAt k l i=none→setK k undef l=l∧eraseK k l=l
 |[],_,_=>⟨rfl,rfl⟩
 |x::l,i,h=>by
  simp only[findAt]at h
  split at h
  ·cases h
  ·rename_i hx
   have:=findAt_none h
   simp only[setK,eraseK,if_neg hx,this,and_self]
def putK (k:Int) (v:Value) (l:List Ent) (clock:Nat):List Ent:=if (getK k l).isSome then setK k v l else l++[(k,v,clock)]
def clockK (k:Int) (l:List Ent) (clock:Nat):Nat:=if (getK k l).isSome then clock else clock+1
theorem mapUpdate_t {P:Program}{F:List Nat}{w0 w:World}{Γ Γ':List A}{t kt e:TypeId}{b clock:Nat}{l:List Ent}{k:Int}{v:Value}(ht:P.underlying t=some (.map kt e)) (hk:P.underlying kt=some (.int .i64)) (hT:T F w0 w Γ)
  (hu:Turn (mapP b l clock) (mapP b (putK k v l clock) (clockK k l clock)) Γ Γ'):∃w',(Instr.mapUpdate t (.map (some b)) (.int .i64 k) v).run P w=.ok () w'∧T F w0 w' Γ':=by
 obtain⟨Δ,hp1,_⟩:=hu.perm
 have hb:w.heap[b]?=some (.map (l.map ent).toArray clock):=hT.got (hp1.mem_iff.2 List.mem_cons_self)
 refine⟨_,?_,hT.set hu⟩
 have h1:=checkKey_int (P:=P) hk false k w
 have h2:=findKey_ints (P:=P) hk k l w
 have h3:=findAt_getK k l 0
 have hne:∀c t f,Obj.map (l.map ent).toArray clock≠.cells c t f:=fun _ _ _ h=>by cases h
 simp only[Instr.mapUpdate,Sem.run_bind,run_underlying ht,Result.andThen_ok,getObj_map hb,h1,h2]
 cases hf:findAt k l 0 with
 |none=>
  have hg:getK k l=none:=by rw[hf]at h3; exact h3.symm
  simp only[setObj_run hb hne,putK,clockK,hg,Option.isSome_none,Bool.false_eq_true,if_false,List.map_append,List.map_cons,List.map_nil,ent,List.push_toArray]
 |some x=>
  obtain⟨j,u⟩:=x
  have hg:getK k l=some u:=by rw[hf]at h3; exact h3.symm
  obtain⟨_,y,hy,hyk⟩:=findAt_lt k l 0 j u hf
  have hm:=modify_set k v l 0 j u hf
  simp only[Nat.sub_zero]at hy hm
  have hkey:((((l.map ent).toArray)[j]?).map (·.key)).getD (.int .i64 k)=.int .i64 k:=by simp[hy,ent,hyk]
  have hsb:Instr.sameBits 10000 (.int .i64 k) (.int .i64 k)=true:=by simp[Instr.sameBits]
  simp only[hkey,Instr.keyThatStays,hsb,if_true,Sem.run_bind,Sem.run_pure,Result.andThen_ok,setObj_run hb hne,putK,clockK,hg,Option.isSome_some,List.modify_toArray,hm]
theorem delete_t {P:Program}{F:List Nat}{w0 w:World}{Γ Γ':List A}{t kt e ty:TypeId}{ts:Array TypeId}{cs:Array Bool}{b clock:Nat}{l:List Ent}{k:Int}(hts:ts[0]?=some t) (ht:P.underlying t=some (.map kt e)) (hk:P.underlying kt=some (.int .i64)) (hT:T F w0 w Γ)
  (hu:Turn (mapP b l clock) (mapP b (eraseK k l) clock) Γ Γ'):∃w',(builtin .delete ts ty cs #[.map (some b),.int .i64 k]).run P w=.ok (.value (.tuple #[])) w'∧T F w0 w' Γ':=by
 obtain⟨Δ,hp1,_⟩:=hu.perm
 have hb:w.heap[b]?=some (.map (l.map ent).toArray clock):=hT.got (hp1.mem_iff.2 List.mem_cons_self)
 refine⟨_,?_,hT.set hu⟩
 have h1:=checkKey_int (P:=P) hk (l.map ent).toArray.isEmpty k w
 have h2:=findKey_ints (P:=P) hk k l w
 have hne:∀c t f,Obj.map (l.map ent).toArray clock≠.cells c t f:=fun _ _ _ h=>by cases h
 have e1:(#[Value.map (some b),Value.int .i64 k]:Array Value)[0]?=some (.map (some b)):=rfl
 have e2:(#[Value.map (some b),Value.int .i64 k]:Array Value)[1]?=some (.int .i64 k):=rfl
 simp only[builtin,Builtin.delete_,hts,e1,e2,Sem.run_bind,run_underlying ht,Result.andThen_ok,getObj_map hb,h1,h2]
 cases hf:findAt k l 0 with
 |none=>simp only[Sem.run_bind,setObj_run hb hne,(findAt_none hf).2,Result.andThen_ok,Sem.run_pure]
 |some x=>
  obtain⟨j,u⟩:=x
  have hm:=erase_set k l 0 j u hf
  simp only[Nat.sub_zero]at hm
  have hj:=findAt_lt k l 0 j u hf
  have he:(l.map ent).toArray.eraseIdxIfInBounds j=((eraseK k l).map ent).toArray:=by
   rw[←hm]; apply Array.toList_inj.1; simp
  simp only[he,Sem.run_bind,setObj_run hb hne,Result.andThen_ok,Sem.run_pure]
theorem clear_t {P:Program}{F:List Nat}{w0 w:World}{Γ Γ':List A}{t kt e ty:TypeId}{ts:Array TypeId}{cs:Array Bool}{b clock:Nat}{l:List Ent}(hts:ts[0]?=some t) (ht:P.underlying t=some (.map kt e)) (hT:T F w0 w Γ)
  (hu:Turn (mapP b l clock) (mapP b [] clock) Γ Γ'):∃w',(builtin .clear ts ty cs #[.map (some b)]).run P w=.ok (.value (.tuple #[])) w'∧T F w0 w' Γ':=by
 obtain⟨Δ,hp1,_⟩:=hu.perm
 have hb:w.heap[b]?=some (.map (l.map ent).toArray clock):=hT.got (hp1.mem_iff.2 List.mem_cons_self)
 refine⟨_,?_,hT.set hu⟩
 have hne:∀c t f,Obj.map (l.map ent).toArray clock≠.cells c t f:=fun _ _ _ h=>by cases h
 have e1:(#[Value.map (some b)]:Array Value)[0]?=some (.map (some b)):=rfl
 simp only[builtin,Builtin.clear_,hts,e1,Sem.run_bind,run_underlying ht,Result.andThen_ok,getObj_map hb,setObj_run hb hne,Sem.run_pure,List.map_nil]
theorem Has.ext {w w':World}{Γ:List A}(h:Has w Γ) (he:Ext w w'):Has w' Γ:=
 ⟨h.nodup,fun b hb=>Nat.lt_of_lt_of_le (h.lt b hb) he.size,fun a ha=>A.keep (h.holds a ha) fun b hb=>he.heap b (h.lt b (feet_mem ha hb))⟩
theorem Has.got {w:World}{Γ:List A}(h:Has w Γ){b:Nat}{o:Obj}(hm:ob b o∈Γ):w.heap[b]?=some o:=h.holds _ hm
theorem Has.ld {w0 w:World}{Γ:List A}{Δ:List (Nat×Obj)}(h:Has w0 Γ) (hS:S w0 w Δ){b i:Nat}{c:Array Value}{t:TypeId}{f:Nat×Nat}{v:Value}(hm:ob b (.cells c t f)∈Γ) (hv:c[i]?=some v):w.cell? ⟨b,i,none⟩=some v:=
 cell_of (hS.ext.get (h.got hm)) hv
theorem Has.ldA {w0 w:World}{Γ:List A}{Δ:List (Nat×Obj)}(h:Has w0 Γ) (hS:S w0 w Δ){b i n:Nat}{c:Array Value}{t:TypeId}{f:Nat×Nat}{v:Value}(hm:ob b (.cells c t f)∈Γ) (hv:c[i+n]?=some v):w.cell? (Addr.add ⟨b,i,none⟩ n)=some v:=by
 rw[addr_add]; exact h.ld hS hm hv
theorem T.ldA {F:List Nat}{w0 w:World}{Γ:List A}(h:T F w0 w Γ){b i n:Nat}{c:Array Value}{t:TypeId}{f:Nat×Nat}{v:Value}(hm:ob b (.cells c t f)∈Γ) (hv:c[i+n]?=some v):w.cell? (Addr.add ⟨b,i,none⟩ n)=some v:=by
 rw[addr_add]; exact h.ld hm hv
theorem St.tA {F:List Nat}{w0 w:World}{Γ Γ':List A}{b i n:Nat}{c c':Array Value}{t:TypeId}{v:Value}{K:World→Prop}(hT:T F w0 w Γ) (hu:Turn (blk b c t) (blk b c' t) Γ Γ') (hi:i+n<c.size) (hc:c.setIfInBounds (i+n) v=c')
  (hv:scalar v=true) (h:∀w',T F w0 w' Γ'→K w'):St (Addr.add ⟨b,i,none⟩ n) v w K:=by
 rw[addr_add]; exact St.t hT hu hi hc hv h
theorem zip_put:∀(l:List Value) (k:Nat) (cs:Array Value),(l.zipIdx k).foldl (fun cs x=>cs.setIfInBounds (0+x.2) x.1) cs=putAt cs k l
 |[],_,_=>rfl
 |x::l,k,cs=>by
  simp only[List.zipIdx_cons,List.foldl_cons,putAt,Nat.zero_add]
  have:=zip_put l (k+1) (cs.setIfInBounds k x)
  simpa only[Nat.zero_add] using this
theorem putAt_all {c z:Array Value}(h:c.size=z.size):putAt c 0 z.toList=z:=by
 apply Array.ext_getElem?
 intro j
 rw[putAt_get]
 split
 ·simp
 ·rename_i hn
  simp only[Array.length_toList]at hn
  rw[Array.getElem?_eq_none (by omega),Array.getElem?_eq_none (by omega)]
theorem fill_one {n:Nat}{c z:Array Value}(hz:z.size=n) (hc:c.size=n):Instr.fill (fun j=>some (j*n,n)) c [(0,.agg z)]=some z:=by
 have h1:(Value.agg z).cells=z:=rfl
 simp only[Instr.fill,Nat.zero_mul,h1,hz,Nat.zero_add,hc,ne_eq,not_true,decide_false,Bool.false_or,Nat.lt_irrefl,gt_iff_lt]
 have h2:=zip_put z.toList 0 c
 simp only[Nat.zero_add]at h2
 rw[←Array.foldl_toList,Array.toList_zipIdx,h2,putAt_all (by omega)]
 rfl
theorem litOne {P:Program}{t el:TypeId}{i:TypeInfo}{z:Array Value}(ht:P.underlying t=some (.slice el)) (hi:P.info? el=some i) (hz:z.size=P.cellsOf el) (h0:P.cellsOf el≠0) (hb:P.cellsOf el≤16777216){zv:Value}(hzv:i.zero=some zv):
  litCells P t 1 [(0,.agg z)]=some (z,el):=by
 have h1:¬(1*P.cellsOf el>2 ^ 24):=by omega
 have h2:¬(1*P.cellsOf el=0):=by omega
 simp only[litCells,ht,hi,if_neg h1,if_neg h2,hzv,Option.map_some]
 rw[fill_one hz (by simp)]
 rfl
def putL (xs:List Value) (o:Nat):List Value→List Value
 |[]=>xs
 |v::l=>putL (xs.set o v) (o+1) l
theorem putL_eq:∀(l xs:List Value) (o:Nat),o+l.length≤xs.length→putL xs o l=xs.take o++l++xs.drop (o+l.length)
 |[],xs,o,_=>by simp[putL]
 |v::l,xs,o,h=>by
  simp only[List.length_cons]at h
  rw[putL,putL_eq l (xs.set o v) (o+1) (by simp; omega)]
  have h1:(xs.set o v).take (o+1)=xs.take o++[v]:=by
   rw[List.take_add_one,List.take_set_of_le (Nat.le_refl _),List.getElem?_set_self (by omega)]; rfl
  have h2:(xs.set o v).drop (o+1+l.length)=xs.drop (o+(l.length+1)):=by
   rw[List.drop_set_of_lt (by omega),show o+1+l.length=o+(l.length+1) by omega]
  rw[h1,h2]
  simp
theorem StRowL.t {F:List Nat}{w0:World}{Δ:List A}{e:TypeId}{size n cap b o:Nat}{K:World→Prop}:∀(l:List Value) (i:Nat) (xs:List Value) (w:World),T F w0 w (rowP e size (some b) n cap xs::Δ)→(∀v∈l,scalar v=true)→o+i+l.length≤xs.length→
  (∀w',T F w0 w' (rowP e size (some b) n cap (putL xs (o+i) l)::Δ)→K w')→StL ⟨b,o,none⟩ K l i w
 |[],i,xs,w,hT,_,_,h=>h w hT
 |v::l,i,xs,w,hT,hv,hl,h=>by
  simp only[List.length_cons]at hl
  rw[StL,addr_add]
  refine StRow.t hT .head (by omega) (hv v List.mem_cons_self) fun w' hT'=>?_
  refine StRowL.t l (i+1) _ w' hT' (fun u hu=>hv u (List.mem_cons_of_mem _ hu)) (by simp; omega) fun w2 hT2=>h w2 ?_
  simpa only[putL,Nat.add_assoc] using hT2
theorem storeRow_t {P:Program}{t0:TypeId}{i:TypeInfo}{F:List Nat}{w0 w:World}{Γ Δ:List A}{e:TypeId}{size n cap b o:Nat}{xs:List Value}{cs:Array Value}(hT:T F w0 w Γ) (hk:Pick (rowP e size (some b) n cap xs) Γ Δ) (hi:P.info? t0=some i) (hs:cs.size=P.cellsOf t0)
  (hv:∀v∈cs.toList,scalar v=true) (hl:o+cs.size≤xs.length):∃w',(Instr.storeAt t0 (.pointer (some ⟨b,o,none⟩)) (.agg cs)).run P w=.ok () w'∧T F w0 w' (rowP e size (some b) n cap (xs.take o++cs.toList++xs.drop (o+cs.size))::Δ):=by
 have h1:StL ⟨b,o,none⟩ (fun w'=>T F w0 w' (rowP e size (some b) n cap (putL xs o cs.toList)::Δ)) cs.toList 0 w:=StRowL.t cs.toList 0 xs w (hT.pick hk) hv (by simpa using hl) fun w' hT'=>hT'
 obtain⟨w',hr,hT'⟩:=StL_run (P:=P) h1
 rw[putL_eq _ _ _ (by simpa using hl),Array.length_toList]at hT'
 exact⟨w',storeAgg_run hi hs hr,hT'⟩
theorem next_t {P:Program}{F:List Nat}{w0 w:World}{Γ:List A}{ty:TypeId}{r bm since c0 clock:Nat}{seen:Array Nat}{es:Array MapEntry}(hT:T F w0 w Γ) (hm:ob bm (.map es clock)∈Γ) (hr:ob r (.mapIter (some bm) since seen c0)∈Γ)
  (hold:∀x∈es.toList,x.born<since) (hsc:since≤c0):
  ((leftOf es seen).size=0∧(Instr.next (.pointer (some ⟨r,0,none⟩)) false ty).run P w=.ok (.tuple #[.bool false]) w)∨
  ∃e∈(leftOf es seen).toList,∃w',(Instr.next (.pointer (some ⟨r,0,none⟩)) false ty).run P w=.ok (.tuple #[.bool true,e.key,e.val]) w'∧
   ∀Γ',Turn (ob r (.mapIter (some bm) since seen c0)) (ob r (.mapIter (some bm) since (seen.push e.born) clock)) Γ Γ'→T F w0 w' Γ':=by
 have hb:=hT.got hm
 have hi:=hT.got hr
 have hi2:(getObj r).run P w=.ok (.mapIter (some bm) since seen c0) w:=by simp[getObj,Sem.run,hi]
 have hb2:(getObj bm).run P w=.ok (.map es clock) w:=by simp[getObj,Sem.run,hb]
 simp only[Instr.next,Sem.run_bind,hi2,hb2,Result.andThen_ok,next_test_false seen es since c0 hold hsc,Bool.false_eq_true,if_false]
 unfold leftOf
 have hmem:∀x∈(Array.filter (fun e=>!seen.contains e.born) es).toList,x.born<since:=fun x hx=>hold x (by simp at hx⊢; exact hx.1)
 generalize Array.filter (fun e=>!seen.contains e.born) es=L at hmem⊢
 have e1:L.filter (fun x=>decide (x.born<since))=L:=Array.filter_eq_self.2 (fun x hx=>by simpa using hmem x (by simpa using hx))
 have e2:L.filter (fun x=>decide (x.born≥since))=#[]:=by
  rw[Array.filter_eq_empty_iff]
  intro x hx
  have:=hmem x (by simpa using hx)
  simp
  omega
 simp only[e1,e2,Array.append_empty]
 by_cases h0:L.size=0
 ·left
  have:L=#[]:=Array.eq_empty_of_size_eq_zero h0
  subst this
  refine⟨rfl,?_⟩
  simp[choose,Sem.run,Question.forced]
 ·right
  have hne:L.isEmpty=false:=by simp[Array.isEmpty,h0]
  simp only[hne,Bool.false_eq_true,if_false,Array.empty_append,Array.size_map]
  have hch:∃(j:Nat) (w1:World),j<L.size∧w1.heap=w.heap∧T F w0 w1 Γ∧(choose (Question.mapNext L.size)).run P w=.ok j w1:=by
   by_cases hf:L.size≤1
   ·exact⟨0,w,by omega,rfl,hT,by simp[choose,Sem.run,Question.forced,hf]⟩
   ·exact⟨_,w.drew,Nat.mod_lt _ (by omega),rfl,hT.drew,by
     simp only[choose,Sem.run,Question.forced,decide_eq_true_eq,hf,if_false,Question.cut]
     rfl⟩
  obtain⟨j,w1,hj,hal,hT1,hrun⟩:=hch
  have hi1:w1.heap[r]?=some (.mapIter (some bm) since seen c0):=hT1.got hr
  refine⟨L[j],by simp,{ w1 with heap:=w1.heap.setIfInBounds r (.mapIter (some bm) since (seen.push L[j].born) clock) },?_,fun Γ' hu=>hT1.set hu⟩
  have hset:(setObj r (.mapIter (some bm) since (seen.push L[j].born) clock)).run P w1=.ok () { w1 with heap:=w1.heap.setIfInBounds r (.mapIter (some bm) since (seen.push L[j].born) clock) }:=setObj_run hi1 (fun _ _ _ h=>by cases h)
  simp only[hrun,Array.getElem?_map,Array.getElem?_eq_getElem hj,Option.map_some,Sem.run_bind,hset,Result.andThen]
  rfl
end Go.Sh
end
section
namespace Go.Sh
open Go.RowKit Go.Lib
theorem made_toList (z:Array Value) (hz:z.size=1) (n:Nat):(madeCells z n).toList=List.replicate n (z.getD 0 undef):=by
 apply List.ext_getElem?
 intro j
 rw[List.getElem?_replicate]
 by_cases hj:j<n
 ·simp[madeCells,hj,hz,Nat.mod_one]
 ·simp[madeCells,hj]
theorem make_t {P:Program}{F:List Nat}{w0 w:World}{Γ:List A}{t e:TypeId}{i:TypeInfo}{z:Value}(ht:P.underlying t=some (.slice e)) (hi:P.info? e=some i) (hz:i.zero=some z) (hsize:i.size=1) (hzs:z.cells.size=1) (hby:decide (i.bytes≤10000)=true)
  {kl kc:IntKind} {n c:Int} (h0:0≤n) (hnc:n≤c) (hc:c≤1000000000) (hT:T F w0 w Γ):
  ∃k w',(Instr.makeSlice t (.int kl n) (.int kc c)).run P w=.ok (.slice (some ⟨k,0,none⟩) n.toNat c.toNat) w'∧T F w0 w' (rowP e 1 (some k) n.toNat c.toNat (List.replicate n.toNat (z.cells.getD 0 undef))::Γ):=by
 have hb:i.bytes≤10000:=of_decide_eq_true hby
 have hb2:(i.bytes:Int)*c≤10000*1000000000:=Int.mul_le_mul (by omega) hc (by omega) (by decide)
 have hr:=run_make (P:=P) w t e i z ht hi hz kl kc n c h0 hnc (by omega) (by omega)
 refine⟨_,_,hr,(hT.alloc _).weak rfl fun q hq=>⟨by simp,by omega,by simp only[maxLen]; omega,_,hq,by rw[size_madeCells,hsize],?_⟩⟩
 rw[made_toList _ hzs,hsize,List.take_replicate]
 congr 1
 omega
theorem copyStr_t {P:Program}{F:List Nat}{w0 w:World}{Γ Δ:List A}{dT sT ty e:TypeId}{cs:Array Bool}(hu:P.underlying dT=some (.slice e)) (hs:(P.info? e).map (·.size)=some 1)
  {g n cap:Nat} {xs:List Value} {s:ByteArray} (hle:s.size≤n) (hT:T F w0 w Γ) (hk:Pick (rowP e 1 (some g) n cap xs) Γ Δ):
  ∃w',(builtin .copy #[dT,sT] ty cs #[.slice (some ⟨g,0,none⟩) n cap,.string s]).run P w=.ok (.value (.int .i64 s.size)) w'∧T F w0 w' (rowP e 1 (some g) n cap (byteCells s.data.toList++xs.drop s.size)::Δ):=by
 have hT1:=hT.pick hk
 obtain⟨k1,k2,k3,cur,hg,hcs,htake⟩:=hT1.says List.mem_cons_self
 have hg:w.heap[g]?=some (.cells cur e (0,0)):=hg
 have hr:=run_copy_row_string (P:=P) w dT sT ty e g 0 n cap s cur e hu hs hg hle (by omega)
 simp only[List.take_zero,List.nil_append,Nat.zero_add]at hr
 have hbl:(byteCells s.data.toList).length=s.size:=by rw[byteCells_length,Array.length_toList]; rfl
 refine⟨w.setRow g (Go.Lib.byteCells s.data.toList++cur.toList.drop s.size).toArray,by simp only[builtin,Sem.run_bind,hr,Result.andThen]; rfl,hT1.turn rfl rfl (by simp) (fun q hq hne=>setRow_other w g q _ fun e=>hne (by simp[rowP,e])) (by simp[rowP]) (fun q hq=>?_) ⟨?_,k2,k3,_,setRow_heap w g cur _ e _ hg,?_,?_⟩⟩
 ·obtain rfl:q=g:=by simpa[rowP] using hq
  exact⟨by simpa using lt_of_heap hg,.inl (by simp[rowP])⟩
 ·rw[List.length_append,hbl,List.length_drop]; omega
 ·simp only[List.size_toArray,List.length_append,hbl,List.length_drop,Array.length_toList]; omega
 ·rw[List.take_append,List.take_of_length_le (by rw[hbl]; omega),hbl,←htake,List.drop_take,Nat.mul_one]
end Go.Sh
end
section
namespace Go.Sh
open Go.RowKit
theorem T.putTop {F:List Nat}{w0 w:World}{Γ:List A}{b:Nat}{o o':Obj}(h:T F w0 w (ob b o::Γ)):T F w0 (w.putObj b o') (ob b o'::Γ):=h.set .head
theorem shut_mark {F:List Nat}{w0 w:World}{Γ:List A}{d:Nat}{Q:World→Prop}(h:T F w0 w (ob d (.deferred (some []))::Γ)) (hq:∀w',T F w0 w' Γ→Q w'):w.heap[d]?=some (.deferred (some []))∧Q (w.putObj d (.deferred none)):=
 ⟨h.got List.mem_cons_self,hq _ h.putTop.drop⟩
theorem RoundP.t {obf:LoopState→Option Code→Obj}{l:Nat}{Φ:Value→World→Prop}{body:(World→Prop)→(Nat→World→Prop)→(World→Prop)→World→Prop}{F:List Nat}{w0 W:World}{Γ:List A}
  (hT:T F w0 W (ob l (obf .ready none)::Γ)) {G:List A→Prop} (hΦ:∀Γ' w',G Γ'→T F w0 w' (ob l (obf .ready none)::Γ')→Φ (.bool true) w')
  (hb:∀K X R w1,T F w0 w1 (ob l (obf .busy none)::Γ)→(∀Γ' w2,G Γ'→T F w0 w2 (ob l (obf .busy none)::Γ')→K w2)→body K X R w1):RoundP obf l Φ body W:=
 ⟨hT.got List.mem_cons_self,hb _ _ _ _ hT.putTop fun Γ' w2 hg h2=>⟨h2.got List.mem_cons_self,hΦ Γ' _ hg h2.putTop⟩⟩
theorem RangeP.t {P:Program}{round:(LoopState→Option Code→Obj)→Nat→List Value→World→(Value→World→Prop)→Prop}{os:List (Nat×(Nat→World→Prop))}{K R:Nat→World→Prop}{f:FuncId}{first cap:Array Value}(hb:bodyB P f=true)
  {F:List Nat} {w0 w:World} {Γ:List A} (hT:T F w0 w Γ) {N:Nat} {arg:Nat→List Value} {Inv:Nat→List A→Prop} (h0:Inv 0 Γ)
  (hcallee:∀(yv:Value) (J:Nat→World→Prop),(∀k W,J k W→∃Γk x y,Inv k Γk∧T F w0 W (x::y::Γk))→(∀k W,k<N→J k W→CallF P yv (arg k) W fun e w'=>e=.returned (.bool true)∧J (k+1) w')→
   ∀W,J 0 W→Calls P f (first.toList++[yv]++cap.toList).toArray W fun e w'=>(∃v,e=.returned v)∧J N w')
  (hround:∀(obf:LoopState→Option Code→Obj) (l d k:Nat) (Γk:List A) (W:World) (Φ:Value→World→Prop),k<N→Inv k Γk→T F w0 W (ob l (obf .ready none)::ob d (.deferred (some []))::Γk)→
   (∀Γ' w',Inv (k+1) Γ'→T F w0 w' (ob l (obf .ready none)::ob d (.deferred (some []))::Γ')→Φ (.bool true) w')→round obf l (arg k) W Φ)
  (hK:∀d Γ' w',Inv N Γ'→T F w0 w' (ob d (.deferred (some []))::Γ')→K d w'):RangeP P (.func (.func f) first cap) round os K R w:=by
 intro obf hob hyield
 refine⟨f,first,cap,rfl,hb,?_⟩
 have hsz:(w.alloc (.deferred (some []))).heap.size=w.heap.size+1:=by simp
 have h2:=(hT.alloc (.deferred (some []))).alloc (obf .ready none)
 rw[hsz]at h2
 refine(hcallee (.func (.yield (w.heap.size+1)) #[] #[]) (fun k W=>∃Γk,Inv k Γk∧T F w0 W (ob (w.heap.size+1) (obf .ready none)::ob w.heap.size (.deferred (some []))::Γk)) (fun k W ⟨Γk,hi,h⟩=>⟨Γk,_,_,hi,h⟩) ?_ _ ⟨Γ,h0,h2⟩).mono ?_
 ·rintro k W hk ⟨Γk,hi,h⟩
  show CallV P (.func (.yield (w.heap.size+1)) #[] #[]) (arg k) W _
  refine hyield _ _ _ (h.got List.mem_cons_self) (hround obf _ w.heap.size k Γk W _ hk hi h fun Γ' w' hi' h'=>⟨rfl,Γ',hi',h'⟩)
 ·rintro e w3 ⟨hv,Γk,hi,h⟩
  refine⟨hv,.ready,none,h.got List.mem_cons_self,by simp,.inl ⟨rfl,hK _ Γk _ hi h.putTop.drop⟩⟩
theorem CallF.mono {P:Program}{fv:Value}{args:List Value}{w:World}{Ψ Ψ':Ending→World→Prop}(h:CallF P fv args w Ψ) (hm:∀e w',Ψ e w'→Ψ' e w'):CallF P fv args w Ψ':=by
 unfold CallF at *
 split at h
 ·split at h
  ·rename_i hb
   simp only[hb,if_true]
   exact Calls.mono h hm
  ·exact h.elim
 ·exact Does.mono h fun v w' hv=>hm _ _ hv
abbrev Kd:=List A→Prop
def Ow (h:Kd) (F:List Nat) (w0 w:World) (X:List A):Prop:=∃Y,h Y∧T F w0 w (X++Y)
def star (h g:Kd):Kd:=fun Y=>∃Y1 Y2,h Y1∧g Y2∧Y=Y1++Y2
def noK:Kd:=fun Y=>Y=[]
section
variable {h g:Kd}{F:List Nat}{w0 w:World}{X:List A}
theorem Ow.quiet {w':World}(H:Ow h F w0 w X) (he:Ext w w'):Ow h F w0 w' X:=by
 obtain⟨Y,hY,hT⟩:=H
 exact⟨Y,hY,hT.quiet he⟩
theorem Ow.drew (H:Ow h F w0 w X):Ow h F w0 w.drew X:=by
 obtain⟨Y,hY,hT⟩:=H
 exact⟨Y,hY,hT.drew⟩
theorem Ow.perm {X':List A}(H:Ow h F w0 w X) (hp:X.Perm X'):Ow h F w0 w X':=by
 obtain⟨Y,hY,hT⟩:=H
 exact⟨Y,hY,hT.swap (hp.append_right _)⟩
theorem Ow.dropX {x:A}(H:Ow h F w0 w (x::X)):Ow h F w0 w X:=by
 obtain⟨Y,hY,hT⟩:=H
 exact⟨Y,hY,T.drop hT⟩
theorem T.leave {Γ Δ:List A}(H:T F w0 w (Γ++Δ)):T F w0 w Γ:=by
 have H2:T F w0 w (Δ++Γ):=H.swap List.perm_append_comm
 clear H
 induction Δ with
 |nil=>exact H2
 |cons x Δ ih=>exact ih (T.drop H2)
theorem Ow.under (H:Ow h F w0 w X):T F w0 w X:=by
 obtain⟨Y,hY,hT⟩:=H
 exact T.leave hT
theorem Ow.leave {Z:List A}(H:Ow h F w0 w (X++Z)):Ow h F w0 w X:=by
 obtain⟨Y,hY,hT⟩:=H
 have:T F w0 w ((X++Y)++Z):=hT.swap (by rw[List.append_assoc,List.append_assoc]; exact List.Perm.append_left _ List.perm_append_comm)
 exact⟨Y,hY,T.leave this⟩
theorem Ow.ext (H:Ow h [] w0 w X):Ext w0 w:=H.under.chg.ext
theorem Ow.ld {b i:Nat}{c:Array Value}{t:TypeId}{v:Value}(H:Ow h F w0 w X) (hm:blk b c t∈X) (hv:c[i]?=some v):w.cell? ⟨b,i,none⟩=some v:=H.under.ld hm hv
theorem Ow.of_T (H:T F w0 w X):Ow noK F w0 w X:=⟨[],rfl,by rw[List.append_nil]; exact H⟩
theorem Ow.call {w':World}{Γ Γ':List A}(H:Ow h F w0 w (Γ++X)) (hc:T (feet Γ) w w' Γ'):Ow h F w0 w' (Γ'++X):=by
 obtain⟨Y,hY,hT⟩:=H
 rw[List.append_assoc]at hT
 exact⟨Y,hY,by rw[List.append_assoc]; exact T.call hT hc⟩
theorem Ow.new {w':World}{Γ:List A}(H:Ow h F w0 w X) (hc:T [] w w' Γ):Ow h F w0 w' (Γ++X):=Ow.call (Γ:=[]) H hc
theorem Ow.alloc {c:Array Value}{t:TypeId}{K:Nat→World→Prop}(H:Ow h F w0 w X) (hK:∀b w',Ow h F w0 w' (blk b c t::X)→K b w'):Alloc c t w K:=by
 obtain⟨Y,hY,hT⟩:=H
 exact Alloc.t hT fun b w' h'=>hK b w' ⟨Y,hY,h'⟩
theorem Turn.app {x y:A}{Γ Γ':List A}(hu:Turn x y Γ Γ') (Y:List A):Turn x y (Γ++Y) (Γ'++Y):=by
 induction hu with
 |head=>exact .head
 |tail _ ih=>exact .tail ih
theorem Pick.app {x:A}{Γ Γ':List A}(hu:Pick x Γ Γ') (Y:List A):Pick x (Γ++Y) (Γ'++Y):=by
 induction hu with
 |head=>exact .head
 |tail _ ih=>exact .tail ih
theorem Ow.st {X':List A}{k i:Nat}{c c':Array Value}{t:TypeId}{v:Value}{K:World→Prop}(H:Ow h F w0 w X) (hu:Turn (blk k c t) (blk k c' t) X X') (hi:i<c.size) (hc:c.setIfInBounds i v=c') (hv:scalar v=true) (hK:∀w',Ow h F w0 w' X'→K w'):St ⟨k,i,none⟩ v w K:=by
 obtain⟨Y,hY,hT⟩:=H
 exact St.t hT (hu.app Y) hi hc hv fun w' hT'=>hK w' ⟨Y,hY,hT'⟩
theorem Ow.lend (H:Ow (star h g) F w0 w X):∃Z,g Z∧Ow h F w0 w (X++Z)∧∀{h':Kd}{F':List Nat}{w0' w':World}{X':List A},Ow h' F' w0' w' (X'++Z)→Ow (star h' g) F' w0' w' X':=by
 obtain⟨Y,⟨Y1,Y2,h1,h2,rfl⟩,hT⟩:=H
 refine⟨Y2,h2,⟨Y1,h1,hT.swap ?_⟩,fun {h' F' w0' w' X'} H'=>?_⟩
 ·rw[List.append_assoc]; exact List.Perm.append_left _ List.perm_append_comm
 ·obtain⟨Y1',h1',hT'⟩:=H'
  exact⟨_,⟨Y1',Y2,h1',h2,rfl⟩,hT'.swap (by rw[List.append_assoc]; exact List.Perm.append_left _ List.perm_append_comm)⟩
theorem Ow.flip (H:Ow (star h g) F w0 w X):Ow (star g h) F w0 w X:=by
 obtain⟨Y,⟨Y1,Y2,h1,h2,rfl⟩,hT⟩:=H
 exact⟨_,⟨Y2,Y1,h2,h1,rfl⟩,hT.swap (List.Perm.append_left _ List.perm_append_comm)⟩
theorem Ow.join {Z:List A}(hg:g Z) (H:Ow h F w0 w (X++Z)):Ow (star h g) F w0 w X:=by
 obtain⟨Y1,h1,hT⟩:=H
 exact⟨_,⟨Y1,Z,h1,hg,rfl⟩,hT.swap (by rw[List.append_assoc]; exact List.Perm.append_left _ List.perm_append_comm)⟩
theorem Ow.fst (H:Ow (star h g) F w0 w X):Ow h F w0 w X:=by
 obtain⟨Z,_,H1,_⟩:=H.lend
 exact H1.leave
end
def allK {α:Type}(f:α→Kd):List α→Kd
 |[]=>noK
 |x::l=>star (f x) (allK f l)
section
variable {α:Type}{f:α→Kd}{F:List Nat}{w0 w:World}{X:List A}
theorem allK_snoc {l:List α}{x:α}{Y Z:List A}(hY:allK f l Y) (hZ:f x Z):∃Y',allK f (l++[x]) Y'∧(Y++Z).Perm Y':=by
 induction l generalizing Y with
 |nil=>
  obtain rfl:Y=[]:=hY
  exact⟨Z++[],⟨Z,[],hZ,rfl,rfl⟩,by simp⟩
 |cons y l ih=>
  obtain⟨Y1,Y2,h1,h2,rfl⟩:=hY
  obtain⟨Y',h3,h4⟩:=ih h2
  exact⟨Y1++Y',⟨Y1,Y',h1,h3,rfl⟩,by rw[List.append_assoc]; exact List.Perm.append_left _ h4⟩
theorem allK_at {l:List α}{k:Nat}{x:α}(hk:l[k]?=some x){Y:List A}(hY:allK f l Y):∃Y1 Z,f x Y1∧Y.Perm (Y1++Z)∧∀x' Y1',f x' Y1'→∃Y',allK f (l.set k x') Y'∧(Y1'++Z).Perm Y':=by
 induction l generalizing k Y with
 |nil=>simp at hk
 |cons y l ih=>
  obtain⟨Y1,Y2,h1,h2,rfl⟩:=hY
  cases k with
  |zero=>
   obtain rfl:y=x:=by simpa using hk
   exact⟨Y1,Y2,h1,.refl _,fun x' Y1' hx'=>⟨Y1'++Y2,⟨Y1',Y2,hx',h2,rfl⟩,.refl _⟩⟩
  |succ k=>
   obtain⟨Z1,Z2,h3,h4,h5⟩:=ih (by simpa using hk) h2
   have sw:∀a b c:List A,(a++(b++c)).Perm (b++(a++c)):=fun a b c=>by
    rw[←List.append_assoc,←List.append_assoc]; exact List.perm_append_comm.append_right _
   refine⟨Z1,Y1++Z2,h3,(List.Perm.append_left _ h4).trans (sw _ _ _),fun x' Y1' hx'=>?_⟩
   obtain⟨Y',h6,h7⟩:=h5 x' Y1' hx'
   exact⟨Y1++Y',⟨Y1,Y',h1,h6,rfl⟩,(sw _ _ _).trans (List.Perm.append_left _ h7)⟩
theorem Ow.at {l:List α}{k:Nat}{x:α}(hk:l[k]?=some x) (H:Ow (allK f l) F w0 w X):∃Z,Ow (f x) F w0 w (X++Z)∧∀{x':α}{F':List Nat}{w0' w':World}{X':List A},Ow (f x') F' w0' w' (X'++Z)→Ow (allK f (l.set k x')) F' w0' w' X':=by
 obtain⟨Y,hY,hT⟩:=H
 obtain⟨Y1,Z,h1,hp,hb⟩:=allK_at hk hY
 have sw:∀a b c:List A,((a++b)++c).Perm (a++(c++b)):=fun a b c=>by rw[List.append_assoc]; exact List.Perm.append_left _ List.perm_append_comm
 refine⟨Z,⟨Y1,h1,hT.swap ((List.Perm.append_left _ hp).trans ((sw _ _ _).symm))⟩,fun {x' F' w0' w' X'} H'=>?_⟩
 obtain⟨Y1',h1',hT'⟩:=H'
 obtain⟨Y',h2,h3⟩:=hb x' Y1' h1'
 exact⟨Y',h2,hT'.swap ((sw _ _ _).trans (List.Perm.append_left _ h3))⟩
theorem Ow.snoc {l:List α}{x:α}(H:Ow (star (f x) (allK f l)) F w0 w X):Ow (allK f (l++[x])) F w0 w X:=by
 obtain⟨Y,⟨Y1,Y2,h1,h2,rfl⟩,hT⟩:=H
 obtain⟨Y',h3,h4⟩:=allK_snoc h2 h1
 exact⟨Y',h3,hT.swap (List.Perm.append_left _ (List.perm_append_comm.trans h4))⟩
end
section
variable {h h':Kd}{F:List Nat}{w0 w W:World}{X X':List A}
end
end Go.Sh
end
section
namespace Go.Proofs.YtkknkmplmilihaaGreat
open Go.Sh
theorem allNamed : (Tryz.prog.funcs.all fun fn => !fn.body.isSome || !(fn.name == "runtime.NumGoroutine")) = true := by kernel_rfl
theorem callable : Callable Tryz.prog := ⟨fun f fn hf hb => by
  have h := (Array.all_eq_true_iff_forall_mem.1 allNamed) fn (Array.mem_of_getElem? hf)
  simpa [hb] using h⟩
noncomputable abbrev Tp := Tryz.prog
end Go.Proofs.YtkknkmplmilihaaGreat
end
