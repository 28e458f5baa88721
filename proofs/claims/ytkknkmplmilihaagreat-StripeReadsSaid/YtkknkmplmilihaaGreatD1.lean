import Derived.RangeFuncRecord
import Derived.RangeFuncIn
import Derived.RangeFuncLeaves
import Derived.OrdersIn
import Derived.Laws.World
import Derived.Laws.Sem
import Derived.KernelRfl
namespace Go.Sh
inductive TK where
 |int (k:IntKind)|bool|str|ptr|slice|map|raw|addr|blk
inductive VK where
 |one (k:TK)|agg (ks:List TK)|big (n:Nat)|tup (ks:List VK)
def exT:TK→(Value→Prop)→Prop
 |.int k,Φ=>∃n:Int,Φ (.int k n)
 |.bool,Φ=>∃b:Bool,Φ (.bool b)
 |.str,Φ=>∃s:ByteArray,Φ (.string s)
 |.ptr,Φ=>∃p:Option Addr,Φ (.pointer p)
 |.slice,Φ=>∃(p:Option Addr) (l c:Nat),Φ (.slice p l c)
 |.map,Φ=>∃r:Option Nat,Φ (.map r)
 |.raw,Φ=>∃v:Value,Φ v
 |.addr,Φ=>∃a:Addr,Φ (.pointer (some a))
 |.blk,Φ=>∃b:Nat,Φ (.pointer (some ⟨b,0,none⟩))
def exL:List TK→(List Value→Prop)→Prop
 |[],Φ=>Φ []
 |k::ks,Φ=>exT k fun v=>exL ks fun vs=>Φ (v::vs)
mutual
def exV:VK→(Value→Prop)→Prop
 |.one k,Φ=>exT k Φ
 |.agg ks,Φ=>exL ks fun vs=>Φ (.agg vs.toArray)
 |.big n,Φ=>∃cs:Array Value,cs.size=n∧Φ (.agg cs)
 |.tup ks,Φ=>exVs ks fun vs=>Φ (.tuple vs.toArray)
def exVs:List VK→(List Value→Prop)→Prop
 |[],Φ=>Φ []
 |k::ks,Φ=>exV k fun v=>exVs ks fun vs=>Φ (v::vs)
end
theorem exT_elim {k:TK}{Φ:Value→Prop}(h:exT k Φ):∃v,Φ v:=by
 cases k<;>simp only[exT]at h
 case slice=>obtain⟨p,l,c,h⟩:=h; exact⟨_,h⟩
 all_goals (obtain⟨x,h⟩:=h; exact⟨_,h⟩)
theorem exL_elim:∀{ks:List TK}{Φ:List Value→Prop},exL ks Φ→∃vs,vs.length=ks.length∧Φ vs
 |[],_,h=>⟨[],rfl,h⟩
 |k::ks,Φ,h=>by
  obtain⟨v,h⟩:=exT_elim h
  obtain⟨vs,hl,h⟩:=exL_elim h
  exact⟨v::vs,by simp[hl],h⟩
mutual
theorem exV_elim:∀{k:VK}{Φ:Value→Prop},exV k Φ→∃v,Φ v
 |.one k,Φ,h=>exT_elim (by simpa only[exV] using h)
 |.agg ks,Φ,h=>by simp only[exV]at h; obtain⟨vs,_,h⟩:=exL_elim h; exact⟨_,h⟩
 |.big n,Φ,h=>by simp only[exV]at h; obtain⟨cs,_,h⟩:=h; exact⟨_,h⟩
 |.tup ks,Φ,h=>by simp only[exV]at h; obtain⟨vs,h⟩:=exVs_elim h; exact⟨_,h⟩
theorem exVs_elim:∀{ks:List VK}{Φ:List Value→Prop},exVs ks Φ→∃vs,Φ vs
 |[],Φ,h=>⟨[],by simpa only[exVs] using h⟩
 |k::ks,Φ,h=>by
  simp only[exVs]at h
  obtain⟨v,h⟩:=exV_elim h
  obtain⟨vs,h⟩:=exVs_elim h
  exact⟨v::vs,h⟩
end
def tkOf:TypeDesc→TK
 |.bool=>.bool|.int k=>.int k|.string=>.str|.pointer _=>.ptr|.slice _=>.slice|.map _ _=>.map|_=>.raw
mutual
def flat (P:Program):Nat→TypeId→Option (List TK)
 |0,_=>none
 |d+1,t=>match P.underlying t with
  |some (.struct fs)=>flatF P d fs.toList
  |some (.array n e)=>if n≤12 then (flat P d e).map (fun ks=>(List.replicate n ks).flatten) else none
  |some x=>some [tkOf x]
  |none=>none
def flatF (P:Program):Nat→List Field→Option (List TK)
 |_,[]=>some []
 |0,_=>none
 |d+1,f::fs=>match flat P d f.type,flatF P d fs with
  |some a,some b=>some (a++b)
  |_,_=>none
end
def isAggB:TypeDesc→Bool
 |.struct _=>true|.array _ _=>true|_=>false
def vk1 (P:Program) (t:TypeId):VK:=
 match P.underlying t with
 |some x=>if isAggB x then (match flat P 24 t with
   |some ks=>if ks.length≤20&&ks.length==P.cellsOf t then .agg ks else .big (P.cellsOf t)
   |none=>.big (P.cellsOf t)) else .one (tkOf x)
 |none=>.tup []
def vk (P:Program) (t:TypeId):VK:=
 match P.underlying t with
 |some (.tuple ts)=>.tup (ts.toList.map (vk1 P))
 |_=>vk1 P t
inductive SV where
 |v (x:Value)|t|f|dead
def SV.val?:SV→Option Value
 |.v x=>some x|.t=>some (.bool true)|.f=>some (.bool false)|.dead=>none
structure Env where
 s:List SV
 ms:List Deferred
def getL:List SV→Nat→SV
 |[],_=>.dead
 |x::_,0=>x
 |_::xs,n+1=>getL xs n
def setL:List SV→Nat→SV→List SV
 |[],_,_=>[]
 |_::xs,0,s=>s::xs
 |x::xs,n+1,s=>x::setL xs n s
def get (e:Env) (i:Nat):SV:=getL e.s i
def set (e:Env) (i:Nat) (s:SV):Env:=⟨setL e.s i s,e.ms⟩
def put (e:Env):Option Tmp→SV→Env
 |none,_=>e
 |some d,s=>set e d s
def ev (e:Env):Operand→SV
 |.tmp t=>get e t
 |.const (.bool true)=>.t
 |.const (.bool false)=>.f
 |.const x=>.v x
 |.global g=>.v (.pointer (some ⟨g,0,none⟩))
 |.func f=>.v (.func (.func f) #[] #[])
def wv (s:SV) (k:Value→Prop):Prop:=
 match s with
 |.v x=>k x|.t=>k (.bool true)|.f=>k (.bool false)|.dead=>False
def wvs (e:Env):List Operand→(List Value→Prop)→Prop
 |[],k=>k []
 |x::xs,k=>wv (ev e x) fun v=>wvs e xs fun vs=>k (v::vs)
structure Rel (e:Env) (tmps:Array Value):Prop where
 len:e.s.length=tmps.size
 at':∀i x,(get e i).val?=some x→tmps.getD i undef=x
theorem getL_ge:∀(e:List SV) (i:Nat),e.length≤i→getL e i=.dead
 |[],_,_=>rfl
 |_::xs,0,h=>by simp at h
 |_::xs,n+1,h=>getL_ge xs n (by simpa using h)
theorem getL_setL_ne:∀(e:List SV) (i j:Nat) (s:SV),i≠j→getL (setL e i s) j=getL e j
 |[],_,_,_,_=>rfl
 |_::_,0,0,_,h=>absurd rfl h
 |_::_,0,_+1,_,_=>rfl
 |_::_,_+1,0,_,_=>rfl
 |_::xs,i+1,j+1,s,h=>getL_setL_ne xs i j s (by omega)
theorem getL_setL_eq:∀(e:List SV) (i:Nat) (s:SV),i<e.length→getL (setL e i s) i=s
 |[],_,_,h=>by simp at h
 |_::_,0,_,_=>rfl
 |_::xs,i+1,s,h=>getL_setL_eq xs i s (by simpa using h)
theorem setL_len:∀(e:List SV) (i:Nat) (s:SV),(setL e i s).length=e.length
 |[],_,_=>rfl
 |_::_,0,_=>rfl
 |_::xs,i+1,s=>by simp[setL,setL_len xs i s]
theorem get_ge (e:Env) (i:Nat) (h:e.s.length≤i):get e i=.dead:=getL_ge e.s i h
theorem get_set_ne (e:Env) (i j:Nat) (s:SV) (h:i≠j):get (set e i s) j=get e j:=getL_setL_ne e.s i j s h
theorem get_set_eq (e:Env) (i:Nat) (s:SV) (h:i<e.s.length):get (set e i s) i=s:=getL_setL_eq e.s i s h
theorem set_len (e:Env) (i:Nat) (s:SV):(set e i s).s.length=e.s.length:=setL_len e.s i s
theorem put_ms (e:Env) (d:Option Tmp) (s:SV):(put e d s).ms=e.ms:=by cases d<;>rfl
theorem Rel.put {e:Env}{a:Act}(h:Rel e a.tmps) (d:Option Tmp){s:SV}{v:Value}(hs:s.val?=some v∨s=.dead):Rel (put e d s) (a.put d v).tmps:=by
 cases d with
 |none=>exact h
 |some d=>
  refine⟨by simp[Sh.put,Act.put,set_len,h.len],fun i x hx=>?_⟩
  simp only[Sh.put,Act.put]at hx⊢
  by_cases hid:d=i
  ·subst hid
   by_cases hlt:d<e.s.length
   ·rw[get_set_eq e d s hlt]at hx
    have:d<a.tmps.size:=h.len▸hlt
    rcases hs with hs|hs
    ·rw[hs]at hx; cases hx; simp[Array.getD,this]
    ·rw[hs]at hx; simp[SV.val?]at hx
   ·have hge:e.s.length≤d:=Nat.le_of_not_lt hlt
    have h0:get (set e d s) d=.dead:=get_ge _ _ (by rw[set_len]; exact hge)
    rw[h0]at hx; simp[SV.val?]at hx
  ·rw[get_set_ne e d i s hid]at hx
   have:=h.at' i x hx
   simpa[Array.getD_eq_getD_getElem?,Array.getElem?_setIfInBounds_ne hid] using this
theorem ev_val {e:Env}{a:Act}(h:Rel e a.tmps) (x:Operand){v:Value}(hv:(ev e x).val?=some v):a.eval x=v:=by
 cases x with
 |tmp t=>exact h.at' t v hv
 |const c=>
  unfold ev at hv
  split at hv<;>simp_all [SV.val?,Act.eval]
 |global g=>simpa[ev,SV.val?,Act.eval] using hv
 |func f=>simpa[ev,SV.val?,Act.eval] using hv
theorem wv_elim {s:SV}{k:Value→Prop}(h:wv s k):∃v,s.val?=some v∧k v:=by
 cases s<;>first|exact⟨_,rfl,h⟩|exact h.elim
theorem wv_ev {e:Env}{a:Act}(h:Rel e a.tmps){x:Operand}{k:Value→Prop}(hk:wv (ev e x) k):k (a.eval x):=by
 obtain⟨v,hv,hk⟩:=wv_elim hk
 rw[ev_val h x hv]; exact hk
theorem wvs_ev {e:Env}{a:Act}(h:Rel e a.tmps):∀{xs:List Operand}{k:List Value→Prop},wvs e xs k→k (xs.map a.eval)
 |[],k,hk=>by simpa[wvs] using hk
 |x::xs,k,hk=>by
  simp only[wvs]at hk
  have h1:wvs e xs fun vs=>k (a.eval x::vs):=wv_ev (k:=fun v=>wvs e xs fun vs=>k (v::vs)) h hk
  exact wvs_ev h (xs:=xs) (k:=fun vs=>k (a.eval x::vs)) h1
def FW (ro:Option Nat):Fence:={ Fence.wide with round:=ro }
def Does (P:Program) (s:Sem Next) (w:World) (Φ:Value→World→Prop):Prop:=
 match s.run P w with
 |.ok (.value v) w'=>Φ v w'
 |.ok .skip w'=>Φ undef w'
 |.ok (.enter f args) w'=>Calls P f args w' fun e w''=>∃v,e=.returned v∧Φ v w''
 |.ok (.round l f tmps assign body) w'=>RoundIn Fence.wide 0 P l f tmps assign body w' fun e w''=>∃v,e=.returned v∧Φ v w''
 |.ok (.row row args) w'=>RowsIn Fence.wide 0 P row args w' Φ
 |_=>False
theorem Does.mono {P:Program}{s:Sem Next}{w:World}{Φ Ψ:Value→World→Prop}(h:Does P s w Φ) (hq:∀v w,Φ v w→Ψ v w):Does P s w Ψ:=by
 unfold Does at *
 generalize s.run P w=r at *
 cases r with
 |halt x w'=>exact h
 |ok n w'=>
  cases n<;>simp only at h⊢
  case value=>exact hq _ _ h
  case skip=>exact hq _ _ h
  case enter=>exact Calls.mono h fun e w' ⟨v,he,hv⟩=>⟨v,he,hq _ _ hv⟩
  case round=>exact RoundIn.mono h fun e w' ⟨v,he,hv⟩=>⟨v,he,hq _ _ hv⟩
  case row=>exact RowsIn.mono h fun v w' hv=>hq _ _ hv
def callV (f:Value) (args:List Value):Sem Next:=do
 let d ←Deferred.ofValue f args.toArray
 invoke d.target d.args
def CallV (P:Program) (f:Value) (args:List Value) (w:World) (Φ:Value→World→Prop):Prop:=Does P (callV f args) w Φ
def notDefer:Op→Bool
 |.defer _=>false
 |_=>true
theorem semAt_plain {o:Oper}(h:notDefer o.op=true) (ro:Option Nat) (ρ:Operand→Value):o.semAt ro ρ=execOp ρ o:=by
 unfold Oper.semAt
 split
 ·rename_i h1 h2; rw[h2]at h; cases h
 ·rfl
theorem wpIn_of_does {P:Program}{ro:Option Nat}{o:Oper}{a:Act}{w:World}{next:Act→World→Prop}{Q:Exit→Act→World→Prop}(hd:notDefer o.op=true)
  (h:Does P (execOp a.eval o) w fun v w'=>next (a.put o.dst v) w'):o.wpIn (FW ro) 0 P a w next Q:=by
 refine⟨fun _ _=>trivial,?_⟩
 rw[semAt_plain hd]
 unfold Does at h
 unfold Oper.uponIn
 generalize (execOp a.eval o).run P w=r at *
 cases r with
 |halt x w'=>exact h.elim
 |ok n w'=>
  cases n<;>simp only at h⊢
  case value=>exact h
  case skip=>exact h
  case enter=>exact⟨fun h'=>by simp[FW,Fence.wide]at h',(callsIn_wide (n:=0)).2 (Calls.mono h fun e w' ⟨v,he,hv⟩=>by subst he; exact hv)⟩
  case round=>exact⟨fun h'=>by simp[FW,Fence.wide]at h',RoundIn.mono h fun e w' ⟨v,he,hv⟩=>by subst he; exact hv⟩
  case row=>exact⟨fun h'=>by simp[FW,Fence.wide]at h',h⟩
  all_goals exact h.elim
def pureRun (P:Program){α:Type}:Sem α→Option α
 |.pure a=>some a
 |.program k=>pureRun P (k P)
 |_=>none
theorem pureRun_run {P:Program}{α:Type}:∀{s:Sem α}{v:α},pureRun P s=some v→∀w,s.run P w=.ok v w
 |.pure a,v,h,w=>by simp only[pureRun,Option.some.injEq]at h; subst h; rfl
 |.program k,v,h,w=>by
  simp only[pureRun]at h
  have:=pureRun_run (s:=k P) h w
  simpa[Sem.run] using this
 |.load ..,_,h,_=>by simp[pureRun]at h
 |.store ..,_,h,_=>by simp[pureRun]at h
 |.new ..,_,h,_=>by simp[pureRun]at h
 |.shape ..,_,h,_=>by simp[pureRun]at h
 |.freeze ..,_,h,_=>by simp[pureRun]at h
 |.frozen ..,_,h,_=>by simp[pureRun]at h
 |.getObj ..,_,h,_=>by simp[pureRun]at h
 |.setObj ..,_,h,_=>by simp[pureRun]at h
 |.choose ..,_,h,_=>by simp[pureRun]at h
 |.sys ..,_,h,_=>by simp[pureRun]at h
 |.mark ..,_,h,_=>by simp[pureRun]at h
 |.halt ..,_,h,_=>by simp[pureRun]at h
def litNZ:Operand→Bool
 |.const (.int _ n)=>decide (n≠0)
 |_=>false
def litNN:Operand→Bool
 |.const (.int _ n)=>decide (0≤n)
 |_=>false
def bits2 (op:BinOp) (k:IntKind) (x y:Int):Int:=
 k.wrap ((match op with
  |.and=>BitVec.ofInt k.bits x &&& BitVec.ofInt k.bits y
  |.or=>BitVec.ofInt k.bits x ||| BitVec.ofInt k.bits y
  |.xor=>BitVec.ofInt k.bits x^^^BitVec.ofInt k.bits y
  |_=>BitVec.ofInt k.bits x &&& ~~~BitVec.ofInt k.bits y).toNat:Int)
def binI (op:BinOp) (k:IntKind) (x y:Int) (nz:Bool) (K:Value→Prop):Prop:=
 match op with
 |.add=>K (.int k (k.wrap (x+y)))
 |.sub=>K (.int k (k.wrap (x-y)))
 |.mul=>K (.int k (k.wrap (x*y)))
 |.quo=>if nz then K (.int k (k.wrap (x.tdiv y))) else y≠0∧K (.int k (k.wrap (x.tdiv y)))
 |.rem=>if nz then K (.int k (x.tmod y)) else y≠0∧K (.int k (x.tmod y))
 |.eql=>K (.bool (x==y))
 |.neq=>K (.bool (x != y))
 |.lss=>K (.bool (decide (x<y)))
 |.leq=>K (.bool (decide (x≤y)))
 |.gtr=>K (.bool (decide (x>y)))
 |.geq=>K (.bool (decide (x≥y)))
 |.and=>K (.int k (bits2 .and k x y))
 |.or=>K (.int k (bits2 .or k x y))
 |.xor=>K (.int k (bits2 .xor k x y))
 |.andNot=>K (.int k (bits2 .andNot k x y))
 |_=>False
def shiftI (op:BinOp) (k:IntKind) (x y:Int) (nn:Bool) (K:Value→Prop):Prop:=
 let r:=match op with
  |.shl=>k.wrap (x*2 ^ (min y.toNat k.bits))
  |_=>x.fdiv (2 ^ (min y.toNat k.bits))
 if nn then K (.int k r) else 0≤y∧K (.int k r)
def binS (op:BinOp) (x y:ByteArray) (K:Value→Prop):Prop:=
 match op with
 |.add=>((x.size+y.size:Nat):Int)≤9223372036854775807∧K (.string (x++y))
 |.eql=>K (.bool (x.toList==y.toList))
 |.neq=>K (.bool !(x.toList==y.toList))
 |_=>False
def semK (P:Program) (s:Sem Value) (k:VK) (K:SV→World→Prop) (w:World):Prop:=exV k fun v=>∃w',s.run P w=.ok v w'∧K (.v v) w'
def isShift:BinOp→Bool
 |.shl|.shr=>true
 |_=>false
def eqNil (d:Option TypeDesc) (x:Value) (y:Operand) (K:Bool→Prop):Prop:=
 match d,x,y with
 |some (.pointer _),.pointer p,.const (.pointer none)=>K p.isNone
 |some (.map _ _),.map r,.const (.map none)=>K r.isNone
 |some (.slice _),.slice p _ _,.const (.slice none _ _)=>K p.isNone
 |_,_,_=>False
def isNil:Value→Bool
 |.pointer none=>true
 |.map none=>true
 |.slice none _ _=>true
 |_=>false
def nilConst:Operand→Bool
 |.const v=>isNil v
 |_=>false
def denBin (P:Program) (op:BinOp) (t:TypeId) (x y:Operand) (e:Env) (K:SV→Prop):Prop:=
 wv (ev e x) fun vx=>wv (ev e y) fun vy=>
  match vx,vy with
  |.int kx a,.int ky b=>
   if isShift op then shiftI op kx a b (litNN y) fun v=>K (.v v)
   else if kx=ky then binI op kx a b (litNZ y) fun v=>K (.v v) else False
  |.string a,.string b=>binS op a b fun v=>K (.v v)
  |.bool a,.bool b=>
   match op,P.underlying t with
   |.eql,some .bool=>K (.v (.bool (a==b)))
   |.neq,some .bool=>K (.v (.bool !(a==b)))
   |_,_=>False
  |vx,_=>
   match op,nilConst y with
   |.eql,true=>eqNil (P.underlying t) vx y fun b=>K (.v (.bool b))
   |.neq,true=>eqNil (P.underlying t) vx y fun b=>K (.v (.bool !b))
   |_,_=>False
def pureBin (P:Program) (t:TypeId) (y:Operand):Bool:=
 match P.underlying t with
 |some (.int _)|some .bool|some .string=>true
 |some (.pointer _)|some (.map _ _)|some (.slice _)=>nilConst y
 |_=>false
def zc (P:Program) (t:TypeId):Option (Array Value):=((P.info? t).bind (·.zero)).map Value.cells
def fieldOff (P:Program) (t:TypeId) (i:Nat):Option Nat:=
 match P.underlying t with
 |some (.struct fs)=>match fs[i]? with
  |some f=>if P.cellsOf f.type=0 then none else some f.offset
  |none=>none
 |_=>none
def cellsAt (w:World) (a:Addr):List Value→Nat→Prop
 |[],_=>True
 |[c],i=>w.cell? (a.add i)=some c
 |c::cs,i=>w.cell? (a.add i)=some c∧cellsAt w a cs (i+1)
def bigAt (w:World) (a:Addr) (cs:Array Value):Prop:=∀i,i<cs.size→w.cell? (a.add i)=cs[i]?
def denLoad (P:Program) (t:TypeId) (a:Addr) (K:SV→World→Prop) (w:World):Prop:=
 match vk1 P t with
 |.big n=>∃cs:Array Value,cs.size=n∧bigAt w a cs∧K (.v (.agg cs)) w
 |.agg ks=>exL ks fun vs=>cellsAt w a vs 0∧K (.v (.agg vs.toArray)) w
 |.one k=>exT k fun v=>w.cell? a=some v∧K (.v v) w
 |.tup _=>False
def Alloc (c:Array Value) (t:TypeId) (w:World) (K:Nat→World→Prop):Prop:=K w.heap.size (w.alloc (.cells c t))
def AllocM (w:World) (K:Nat→World→Prop):Prop:=K w.heap.size (w.alloc (.map #[] 0))
def scalar:Value→Bool
 |.agg _=>false|.tuple _=>false|_=>true
def St (a:Addr) (v:Value) (w:World) (K:World→Prop):Prop:=(∃old,w.cell? a=some old)∧w.frozen? a=false∧scalar v=true∧K (w.setCell a v)
def StL (a:Addr) (K:World→Prop):List Value→Nat→World→Prop
 |[],_,w=>K w
 |c::cs,i,w=>St (a.add i) c w fun w'=>StL a K cs (i+1) w'
def stBig (P:Program) (t:TypeId) (a:Addr) (v:Value) (K:SV→World→Prop) (w:World):Prop:=
 ∃w',(Instr.storeAt t (.pointer (some a)) v).run P w=.ok () w'∧K (.v undef) w'
def denStore (P:Program) (t:TypeId) (a:Addr) (v:Value) (K:SV→World→Prop) (w:World):Prop:=
 match vk1 P t with
 |.one _=>if P.cellsOf t=1 then St a v w fun w'=>K (.v undef) w' else False
 |.agg ks=>match v with
  |.agg cs=>if cs.toList.length=ks.length then StL a (fun w'=>K (.v undef) w') cs.toList 0 w else False
  |_=>False
 |_=>stBig P t a v K w
def litCells (P:Program) (t:TypeId) (n:Nat) (parts:List (Nat×Value)):Option (Array Value×TypeId):=
 match P.underlying t with
 |some (.slice el)=>match P.info? el with
  |some i=>if n*P.cellsOf el>2 ^ 24 then none else
   match (if n*P.cellsOf el=0 then some #[] else i.zero.map Value.cells) with
   |some z=>(Instr.fill (fun j=>some (j*P.cellsOf el,P.cellsOf el)) ((Array.range (n*P.cellsOf el)).map (z[·%z.size]!)) parts).map fun c=>(c,el)
   |none=>none
  |none=>none
 |_=>none
def LitS (P:Program) (t:TypeId) (n:Nat) (parts:List (Nat×Value)) (w:World) (K:Nat→World→Prop):Prop:=
 match litCells P t n parts with
 |some (c,el)=>Alloc c el w K
 |none=>False
def unitK (P:Program) (s:Sem Unit) (K:SV→World→Prop) (w:World):Prop:=∃w',s.run P w=.ok () w'∧K (.v undef) w'
def callK (P:Program) (f:FuncId) (args:List Value) (k:VK) (K:SV→World→Prop) (w:World):Prop:=
 Calls P f args.toArray w fun e w'=>exV k fun v=>e=.returned v∧K (.v v) w'
def bodyB (P:Program) (f:FuncId):Bool:=
 match P.funcs[f]? with
 |some fn=>fn.body.isSome
 |none=>false
def lenI (d:Option TypeDesc) (v:Value) (K:Int→Prop):Prop:=
 match d,v with
 |some .string,.string s=>K s.size
 |some (.slice _),.slice _ n _=>K n
 |_,_=>False
def isLenU:Option TypeDesc→Bool
 |some .string|some (.slice _)=>true
 |_=>false
def CallF (P:Program) (fv:Value) (args:List Value) (w:World) (Ψ:Ending→World→Prop):Prop:=
 match fv with
 |.func (.func f) first captured=>if bodyB P f then Calls P f (first.toList++args++captured.toList).toArray w Ψ else False
 |fv=>CallV P fv args w fun v w'=>Ψ (.returned v) w'
def denCall (P:Program) (c:Call) (ty:TypeId) (e:Env) (K:SV→World→Prop) (w:World):Prop:=
 match c.callee with
 |.value f=>wv (ev e f) fun fv=>wvs e c.args.toList fun args=>CallF P fv args w fun e w'=>exV (vk P ty) fun v=>e=.returned v∧K (.v v) w'
 |.builtin b=>wvs e c.args.toList fun args=>
  exV (vk P ty) fun v=>∃w',(builtin b c.argTypes ty (c.args.map fun|.const _=>true|_=>false) args.toArray).run P w=.ok (.value v) w'∧K (.v v) w'
 |.invoke ..=>False
def denIndexAddr (P:Program) (t:TypeId) (vx vi:Value) (K:SV→Prop):Prop:=
 match vi with
 |.int _ i=>match P.underlying t,vx with
  |some (.slice el),.slice p len _=>if (P.info? el).isNone then False else ∃a,p=some a∧0≤i∧i<len∧K (.v (.pointer (some (a.add (i.toNat*P.cellsOf el)))))
  |some (.array len el),.pointer (some a)=>if (P.info? el).isNone then False else 0≤i∧i<len∧K (.v (.pointer (some (a.add (i.toNat*P.cellsOf el)))))
  |_,_=>False
 |_=>False
def pick3 (c a b:SV) (K:SV→Prop):Prop:=
 match c with
 |.t=>(match a with|.dead=>False|s=>K s)
 |.f=>(match b with|.dead=>False|s=>K s)
 |.v (.bool x)=>(x=true→match a with|.dead=>False|s=>K s)∧(x=false→match b with|.dead=>False|s=>K s)
 |_=>False
def mv (s:SV) (K:SV→Prop):Prop:=
 match s with
 |.dead=>False
 |s=>K s
def notB (s:SV) (K:SV→Prop):Prop:=
 match s with
 |.t=>K .f
 |.f=>K .t
 |.v (.bool b)=>K (.v (.bool !b))
 |_=>False
def pureK (P:Program) (s:Sem Value) (K:SV→Prop):Prop:=
 match pureRun P s with
 |some v=>K (.v v)
 |none=>False
def cvI (P:Program) (dst:TypeId) (x:Value) (K:SV→Prop):Prop:=
 match x,P.underlying dst with
 |.int _ n,some (.int k)=>K (.v (.int k (k.wrap n)))
 |_,_=>False
def pureCv (P:Program) (src dst:TypeId):Bool:=
 match P.underlying src,P.underlying dst with
 |some (.int _),some (.int _)=>true
 |_,_=>false
def isLen (P:Program) (c:Call):Bool:=
 match c.callee with
 |.builtin .len=>isLenU ((c.argTypes[0]?).bind P.underlying)
 |_=>false
def denLen (P:Program) (c:Call) (e:Env) (K:SV→Prop):Prop:=
 wvs e c.args.toList fun args=>match args with
  |[v]=>lenI ((c.argTypes[0]?).bind P.underlying) v fun n=>K (.v (.int .i64 n))
  |_=>False
def isPure (P:Program) (o:Oper):Bool:=
 match o.op with
 |.move _|.assign _|.pick ..|.build ..|.unOp ..|.makeFunc ..|.fieldAddr ..|.field ..|.indexAddr ..|.extract ..|.nilCheck _=>true
 |.binOp _ t _ y _=>pureBin P t y
 |.convert src dst _=>pureCv P src dst
 |.call c=>isLen P c
 |_=>false
def notNil:Value→Prop
 |.pointer none=>False|.nilIface=>False|.nilFunc=>False|.func (.method _) _ _=>False|_=>True
def denPure (P:Program) (o:Oper) (e:Env) (K:SV→Prop):Prop:=
 match o.op with
 |.move x|.assign x=>mv (ev e x) K
 |.pick c a b=>pick3 (ev e c) (ev e a) (ev e b) K
 |.build t parts=>wvs e (parts.toList.map (·.2)) fun vs=>pureK P (Instr.build t ((parts.toList.map (·.1)).zip vs).toArray) K
 |.nilCheck x=>wv (ev e x) fun v=>match v with
  |.pointer p=>∃a,p=some a∧K (.v (.pointer (some a)))
  |.func (.func f) first cap=>K (.v (.func (.func f) first cap))
  |v=>notNil v∧K (.v v)
 |.binOp op t x y _=>denBin P op t x y e K
 |.unOp op _ x=>match op with
  |.not=>notB (ev e x) K
  |op=>wv (ev e x) fun v=>pureK P (Op.unary op v) K
 |.convert _ dst x=>wv (ev e x) fun v=>cvI P dst v K
 |.makeFunc fn first cap=>wvs e first.toList fun fs=>wvs e cap.toList fun cs=>K (.v (.func fn fs.toArray cs.toArray))
 |.fieldAddr t x i=>wv (ev e x) fun v=>match v,fieldOff P t i with
  |.pointer (some a),some off=>K (.v (.pointer (some (a.add off))))
  |_,_=>False
 |.field t x i=>wv (ev e x) fun v=>pureK P (Instr.field t v i) K
 |.indexAddr t x i=>wv (ev e x) fun v=>wv (ev e i) fun vi=>denIndexAddr P t v vi K
 |.extract x i=>wv (ev e x) fun v=>pureK P (Instr.extract v i) K
 |.call c=>denLen P c e K
 |_=>False
def nextK (P:Program) (s:Sem Value) (K:SV→World→Prop) (w:World):Prop:=
 (∃w',s.run P w=.ok (.tuple #[.bool false]) w'∧K (.v (.tuple #[.bool false])) w')∨∃(k v:Value) (w':World),s.run P w=.ok (.tuple #[.bool true,k,v]) w'∧K (.v (.tuple #[.bool true,k,v])) w'
def bigEl (P:Program) (t:TypeId):Bool:=
 match P.underlying t with
 |some (.slice el)=>match vk1 P el with
  |.big _=>true
  |_=>false
 |_=>false
def semOf (o:Oper) (e:Env) (k:Sem Value→Prop):Prop:=
 match o.op with
 |.binOp op t x y _=>wv (ev e x) fun vx=>wv (ev e y) fun vy=>k (do eqGuard op t x y vx vy; binOp op t vx vy)
 |.convert src dst x=>wv (ev e x) fun v=>k (convert src dst v)
 |.slice t x lo hi mx=>wv (ev e x) fun v=>wvs e lo.toList fun l=>wvs e hi.toList fun h=>wvs e mx.toList fun m=>k (Instr.sliceAt t v l.head? h.head? m.head?)
 |.index t x i=>wv (ev e x) fun v=>wv (ev e i) fun vi=>k (Instr.index t v vi)
 |.lookup t x i ok=>wv (ev e x) fun v=>wv (ev e i) fun vi=>k (Instr.lookup t v vi ok)
 |.sliceToArrayPointer t x=>wv (ev e x) fun v=>k (Instr.arrayAt t v)
 |.makeSlice t l c=>wv (ev e l) fun vl=>wv (ev e c) fun vc=>k (Instr.makeSlice t vl vc)
 |.mapEntry t m key=>wv (ev e m) fun m=>wv (ev e key) fun key=>k (Instr.mapEntry t m key)
 |.range t x=>wv (ev e x) fun v=>k (Instr.range t v)
 |.next x s=>wv (ev e x) fun v=>k (Instr.next v s o.type)
 |.entry x=>wv (ev e x) fun v=>k (Instr.entry v)
 |_=>False
def denOp (P:Program) (o:Oper) (e:Env) (K:SV→World→Prop) (w:World):Prop:=
 if isPure P o then denPure P o e fun s=>K s w else
 match o.op with
 |.alloc t=>match zc P t with
  |some z=>Alloc z t w fun b w'=>K (.v (.pointer (some ⟨b,0,none⟩))) w'
  |none=>False
 |.box t x=>wv (ev e x) fun v=>Alloc v.cells t w fun b w'=>K (.v (.pointer (some ⟨b,0,none⟩))) w'
 |.load t x=>wv (ev e x) fun v=>match v with
  |.pointer (some a)=>denLoad P t a K w
  |_=>False
 |.store t x y=>wv (ev e x) fun v=>wv (ev e y) fun u=>match v with
  |.pointer (some a)=>denStore P t a u K w
  |_=>False
 |.buildSlice t n parts=>wvs e (parts.toList.map (·.2)) fun vs=>if bigEl P t then semK P (Instr.buildSlice t n ((parts.toList.map (·.1)).zip vs).toArray) (.one .slice) K w else match litCells P t n ((parts.toList.map (·.1)).zip vs) with
  |some (c,el)=>Alloc c el w fun b w'=>K (.v (.slice (some ⟨b,0,none⟩) n n)) w'
  |none=>False
 |.makeMap _ none=>AllocM w fun r w'=>K (.v (.map (some r))) w'
 |.mapUpdate t m k x|.insert t m k x=>wv (ev e m) fun m=>wv (ev e k) fun k=>wv (ev e x) fun x=>unitK P (Instr.mapUpdate t m k x) K w
 |.entryStore t m s x=>wv (ev e m) fun m=>wv (ev e s) fun s=>wv (ev e x) fun x=>unitK P (Instr.entryStore t m s x) K w
 |.call c=>denCall P c o.type e K w
 |.next ..=>semOf o e fun s=>nextK P s K w
 |.range ..=>semOf o e fun s=>semK P s (.one .ptr) K w
 |.sliceToArrayPointer ..=>semOf o e fun s=>semK P s (.one .addr) K w
 |.entry ..=>semOf o e fun s=>semK P s (.tup [.one .raw,.one .raw]) K w
 |_=>semOf o e fun s=>semK P s (vk P o.type) K w
def qsem (P:Program) (D:World→Prop) (s:Sem Value) (k:VK) (K:SV→Prop):Prop:=exV k fun v=>(∀w,D w→s.run P w=.ok v w)∧K (.v v)
def denLoadQ (P:Program) (D:World→Prop) (t:TypeId) (a:Addr) (K:SV→Prop):Prop:=
 match vk1 P t with
 |.big n=>∃cs:Array Value,cs.size=n∧(∀w,D w→bigAt w a cs)∧K (.v (.agg cs))
 |.agg ks=>exL ks fun vs=>(∀w,D w→cellsAt w a vs 0)∧K (.v (.agg vs.toArray))
 |.one k=>exT k fun v=>(∀w,D w→w.cell? a=some v)∧K (.v v)
 |.tup _=>False
def denQ (P:Program) (D:World→Prop) (o:Oper) (e:Env) (K:SV→Prop):Prop:=
 if isPure P o then denPure P o e K else
 match o.op with
 |.load t x=>wv (ev e x) fun v=>match v with
  |.pointer (some a)=>denLoadQ P D t a K
  |_=>False
 |_=>semOf o e fun s=>qsem P D s (vk P o.type) K
def loud (P:Program) (o:Oper):Bool:=
 if isPure P o then false else
 match o.op with
 |.load ..|.binOp ..|.slice ..|.index ..|.lookup ..=>false
 |.convert _ dst _=>match P.underlying dst with
  |some (.slice _)=>true
  |_=>false
 |_=>true
theorem does_val {P:Program}{s:Sem Next}{w w':World}{v:Value}{Φ:Value→World→Prop}(hs:s.run P w=.ok (.value v) w') (h:Φ v w'):Does P s w Φ:=by
 unfold Does; rw[hs]; exact h
theorem does_skip {P:Program}{s:Sem Next}{w w':World}{Φ:Value→World→Prop}(hs:s.run P w=.ok .skip w') (h:Φ undef w'):Does P s w Φ:=by
 unfold Does; rw[hs]; exact h
theorem does_v {P:Program}{s:Sem Value}{w w':World}{v:Value}{Φ:Value→World→Prop}(hs:s.run P w=.ok v w') (h:Φ v w'):
  Does P (do pure (.value (←s))) w Φ:=
 does_val (v:=v) (w':=w') (by simp[hs]) h
theorem does_u {P:Program}{s:Sem Unit}{w w':World}{Φ:Value→World→Prop}(hs:s.run P w=.ok () w') (h:Φ undef w'):
  Does P (do s; pure .skip) w Φ:=
 does_skip (w':=w') (by simp[hs]) h
abbrev Out (K:SV→World→Prop) (v:Value) (w:World):Prop:=∃s:SV,(s.val?=some v∨s=.dead)∧K s w
theorem out_v {K:SV→World→Prop}{v:Value}{w:World}(h:K (.v v) w):Out K v w:=⟨.v v,.inl rfl,h⟩
theorem semK_does {P:Program}{s:Sem Value}{k:VK}{K:SV→World→Prop}{w:World}(h:semK P s k K w):Does P (do pure (.value (←s))) w (Out K):=by
 obtain⟨v,w',hs,hk⟩:=exV_elim h
 exact does_v hs (out_v hk)
def Pures (P:Program) (s:Sem Next) (K:SV→Prop):Prop:=∃v sv,(∀w,s.run P w=.ok (.value v) w)∧sv.val?=some v∧K sv
theorem pures_v {P:Program}{s:Sem Value}{v:Value}{K:SV→Prop}(hs:∀w,s.run P w=.ok v w) (h:K (.v v)):Pures P (do pure (.value (←s))) K:=
 ⟨v,.v v,fun w=>by simp[hs w],rfl,h⟩
theorem pures_val {P:Program}{s:Sem Next}{v:Value}{K:SV→Prop}(hs:∀w,s.run P w=.ok (.value v) w) (h:K (.v v)):Pures P s K:=⟨v,.v v,hs,rfl,h⟩
theorem pureK_pures {P:Program}{s:Sem Value}{K:SV→Prop}(h:pureK P s K):Pures P (do pure (.value (←s))) K:=by
 unfold pureK at h
 split at h
 ·rename_i v hv; exact pures_v (pureRun_run hv) h
 ·exact h.elim
theorem Pures.does {P:Program}{s:Sem Next}{K:SV→World→Prop}{w:World}(h:Pures P s fun sv=>K sv w):Does P s w (Out K):=by
 obtain⟨v,sv,h1,h2,h3⟩:=h
 exact does_val (h1 w) ⟨sv,.inl h2,h3⟩
theorem unitK_does {P:Program}{s:Sem Unit}{K:SV→World→Prop}{w:World}(h:unitK P s K w):Does P (do s; pure .skip) w (Out K):=by
 obtain⟨w',hs,hk⟩:=h
 exact does_u hs (out_v hk)
theorem binI_run {P:Program}{op:BinOp}{t:TypeId}{k:IntKind}{x y:Int}{nz:Bool}{K:Value→Prop}(hnz:nz=true→y≠0) (hs:isShift op=false) (h:binI op k x y nz K):
  ∃v,(∀w,(binOp op t (.int k x) (.int k y)).run P w=.ok v w)∧K v:=by
 cases op<;>simp only[binI]at h<;>first|cases hs|skip
 case quo=>
  have hy:y≠0:=by
   by_cases hn:nz=true
   ·exact hnz hn
   ·simp only[hn]at h; exact h.1
  have hk:K (.int k (k.wrap (x.tdiv y))):=by
   split at h
   ·exact h
   ·exact h.2
  exact⟨_,fun w=>by simp[binOp,Op.intDiv,hy],hk⟩
 case rem=>
  have hy:y≠0:=by
   by_cases hn:nz=true
   ·exact hnz hn
   ·simp only[hn]at h; exact h.1
  have hk:K (.int k (x.tmod y)):=by
   split at h
   ·exact h
   ·exact h.2
  exact⟨_,fun w=>by simp[binOp,Op.intDiv,hy],hk⟩
 all_goals exact⟨_,fun w=>by simp[binOp,Op.intArith,Op.intBits,Op.intCmp,bits2]; try rfl,h⟩
theorem shiftI_run {P:Program}{op:BinOp}{t:TypeId}{k ky:IntKind}{x y:Int}{nn:Bool}{K:Value→Prop}(hnn:nn=true→0≤y) (hs:isShift op=true) (h:shiftI op k x y nn K):
  ∃v,(∀w,(binOp op t (.int k x) (.int ky y)).run P w=.ok v w)∧K v:=by
 have hy:0≤y:=by
  by_cases hn:nn=true
  ·exact hnn hn
  ·unfold shiftI at h; simp only[hn]at h; exact h.1
 have h0:¬y<0:=by omega
 cases op<;>first|cases hs|skip
 ·refine⟨.int k (k.wrap (x*2 ^ (min y.toNat k.bits))),fun w=>by simp[binOp,Op.shift,h0],?_⟩
  unfold shiftI at h
  simp only at h
  split at h
  ·exact h
  ·exact h.2
 ·refine⟨.int k (x.fdiv (2 ^ (min y.toNat k.bits))),fun w=>by simp[binOp,Op.shift,h0],?_⟩
  unfold shiftI at h
  simp only at h
  split at h
  ·exact h
  ·exact h.2
theorem binS_run {P:Program}{op:BinOp}{t:TypeId}{x y:ByteArray}{K:Value→Prop}(h:binS op x y K):
  ∃v,(∀w,(binOp op t (.string x) (.string y)).run P w=.ok v w)∧K v:=by
 unfold binS at h
 cases op<;>simp only at h<;>first|exact h.elim|skip
 ·obtain⟨h1,h2⟩:=h
  have:¬((x.size+y.size:Nat):Int)>IntKind.i64.max:=by
   have:IntKind.i64.max=9223372036854775807:=by decide
   omega
  refine⟨_,fun w=>?_,h2⟩
  show(Op.stringOp .add x y).run P w=_
  unfold Op.stringOp
  simp only
  rw[if_neg this]
  rfl
 all_goals exact⟨_,fun w=>by simp[binOp,Op.stringOp],h⟩
theorem litNZ_ne {a:Act}{y:Operand}{k:IntKind}{n:Int}(h:litNZ y=true) (hy:a.eval y=.int k n):n≠0:=by
 unfold litNZ at h
 split at h
 ·simp[Act.eval]at hy; simpa[hy.2] using h
 ·cases h
theorem litNN_le {a:Act}{y:Operand}{k:IntKind}{n:Int}(h:litNN y=true) (hy:a.eval y=.int k n):0≤n:=by
 unfold litNN at h
 split at h
 ·simp[Act.eval]at hy; simpa[hy.2] using h
 ·cases h
theorem eqGuard_plain {op:BinOp}{t:TypeId}{x y:Operand}{a b:Value}(h:∀cs,a≠.agg cs) (h2:a≠.nilIface):eqGuard op t x y a b=pure ():=by
 unfold eqGuard
 cases a<;>first|exact absurd rfl (h _)|exact absurd rfl h2|(cases op<;>rfl)
theorem underlying_run {P:Program}{t:TypeId}{d:TypeDesc}(h:P.underlying t=some d) (w:World):(underlying t).run P w=.ok d w:=by
 simp[underlying,program,Sem.run,h]
theorem eqIn_ptr {P:Program}(w:World) (d:Nat){t el:TypeId}(p:Option Addr) (h:P.underlying t=some (.pointer el)):(Op.equalIn (d+1) t (.pointer p) (.pointer none)).run P w=.ok p.isNone w:=by
 cases p<;>simp[Op.equalIn,underlying_run h]
theorem eqIn_map {P:Program}(w:World) (d:Nat){t k el:TypeId}(p:Option Nat) (h:P.underlying t=some (.map k el)):(Op.equalIn (d+1) t (.map p) (.map none)).run P w=.ok p.isNone w:=by
 cases p<;>simp[Op.equalIn,underlying_run h]
theorem eqIn_slice {P:Program}(w:World) (d:Nat){t el:TypeId}(p:Option Addr) (l c l' c':Nat) (h:P.underlying t=some (.slice el)):(Op.equalIn (d+1) t (.slice p l c) (.slice none l' c')).run P w=.ok p.isNone w:=by
 cases p<;>simp[Op.equalIn,underlying_run h]
theorem eqIn_bool {P:Program}(w:World) (d:Nat){t:TypeId}(a b:Bool) (h:P.underlying t=some .bool):(Op.equalIn (d+1) t (.bool a) (.bool b)).run P w=.ok (a==b) w:=by
 simp[Op.equalIn,underlying_run h]
theorem eqNil_run {P:Program}{t:TypeId}{x:Value}{y:Operand}{a:Act}{K:Bool→Prop}(h:eqNil (P.underlying t) x y K):
  ∃b,(∀w,(Op.equal t x (a.eval y)).run P w=.ok b w)∧K b∧(∀cs,x≠.agg cs)∧x≠.nilIface∧(∀k n,x≠.int k n)∧(∀s,x≠.string s)∧(∀k n,x≠.float k n)∧(∀k n m,x≠.complex k n m):=by
 unfold eqNil at h
 split at h
 ·rename_i el p hd
  exact⟨_,fun w=>eqIn_ptr w 9999 p hd,h,by simp,by simp,by simp,by simp,by simp,by simp⟩
 ·rename_i k el p hd
  exact⟨_,fun w=>eqIn_map w 9999 p hd,h,by simp,by simp,by simp,by simp,by simp,by simp⟩
 ·rename_i el p l c l' c' hd
  exact⟨_,fun w=>eqIn_slice w 9999 p l c l' c' hd,h,by simp,by simp,by simp,by simp,by simp,by simp⟩
 ·exact h.elim
theorem bool_run {P:Program}{t:TypeId}{a b:Bool}(w:World) (hd:P.underlying t=some .bool):(Op.equal t (.bool a) (.bool b)).run P w=.ok (a==b) w:=
 eqIn_bool w 9999 a b hd
theorem denBin_pures {P:Program}{o:Oper}{op:BinOp}{t yt:TypeId}{x y:Operand}{e:Env}{a:Act}{K:SV→Prop}(hr:Rel e a.tmps) (ho:o.op=.binOp op t x y yt)
  (h:denBin P op t x y e K):Pures P (execOp a.eval o) K:=by
 have he:execOp a.eval o=(do pure (.value (←(do eqGuard op t x y (a.eval x) (a.eval y); binOp op t (a.eval x) (a.eval y))))):=by simp only[execOp,ho]
 rw[he]
 unfold denBin at h
 have h:=wv_ev hr (wv_ev hr h)
 split at h
 ·rename_i kx i ky j hx hy
  rw[hx,hy,eqGuard_plain (by simp) (by simp)]
  split at h
  ·rename_i hs
   obtain⟨v,h1,h2⟩:=shiftI_run (P:=P) (t:=t) (ky:=ky) (fun hn=>litNN_le hn hy) hs h
   exact pures_v (v:=v) (fun w=>by simpa using h1 w) h2
  ·rename_i hs
   split at h
   ·rename_i hk
    subst hk
    obtain⟨v,h1,h2⟩:=binI_run (P:=P) (t:=t) (fun hn=>litNZ_ne hn hy) (by simpa using hs) h
    exact pures_v (v:=v) (fun w=>by simpa using h1 w) h2
   ·exact h.elim
 ·rename_i s1 s2 hx hy
  rw[hx,hy,eqGuard_plain (by simp) (by simp)]
  obtain⟨v,h1,h2⟩:=binS_run (P:=P) (t:=t) h
  exact pures_v (v:=v) (fun w=>by simpa using h1 w) h2
 ·rename_i b1 b2 hx hy
  rw[hx,hy,eqGuard_plain (by simp) (by simp)]
  split at h
  ·exact pures_v (v:=.bool (b1==b2)) (fun w=>by simp[binOp,bool_run w ‹P.underlying t=some .bool›]) h
  ·exact pures_v (v:=.bool !(b1==b2)) (fun w=>by simp[binOp,bool_run w ‹P.underlying t=some .bool›]) h
  ·exact h.elim
 ·rename_i vx vy hn1 hn2 hn3
  split at h
  ·obtain⟨b,h1,h2,h3,h4,h5,h6,h7,h8⟩:=eqNil_run (a:=a) h
   rw[eqGuard_plain h3 h4]
   refine pures_v (v:=.bool b) (fun w=>?_) h2
   have:binOp .eql t (a.eval x) (a.eval y)=(do pure (.bool (←Op.equal t (a.eval x) (a.eval y)))):=by
    generalize a.eval x=vx at *
    generalize a.eval y=vy at *
    cases vx<;>first|exact absurd rfl (h5 _ _)|exact absurd rfl (h6 _)|exact absurd rfl (h7 _ _)|exact absurd rfl (h8 _ _ _)|(cases vy<;>rfl)
   simp[this,h1 w]
  ·obtain⟨b,h1,h2,h3,h4,h5,h6,h7,h8⟩:=eqNil_run (a:=a) h
   rw[eqGuard_plain h3 h4]
   refine pures_v (v:=.bool !b) (fun w=>?_) h2
   have:binOp .neq t (a.eval x) (a.eval y)=(do pure (.bool (!(←Op.equal t (a.eval x) (a.eval y))))):=by
    generalize a.eval x=vx at *
    generalize a.eval y=vy at *
    cases vx<;>first|exact absurd rfl (h5 _ _)|exact absurd rfl (h6 _)|exact absurd rfl (h7 _ _)|exact absurd rfl (h8 _ _ _)|(cases vy<;>rfl)
   simp[this,h1 w]
  ·exact h.elim
def cellsAll (w:World) (a:Addr):List Value→Nat→Prop
 |[],_=>True
 |c::cs,i=>w.cell? (a.add i)=some c∧cellsAll w a cs (i+1)
theorem cellsAll_of_at {w:World}{a:Addr}:∀{cs:List Value}{i:Nat},cellsAt w a cs i→cellsAll w a cs i
 |[],_,_=>trivial
 |[_],_,h=>⟨h,trivial⟩
 |_::c::cs,_,h=>⟨h.1,cellsAll_of_at (cs:=c::cs) h.2⟩
theorem cellsAll_of_forall {w:World}{a:Addr}:∀{cs:List Value}{i:Nat},(∀j,j<cs.length→w.cell? (a.add (i+j))=cs[j]?)→cellsAll w a cs i
 |[],_,_=>trivial
 |c::cs,i,h=>⟨by simpa using h 0 (by simp),cellsAll_of_forall fun j hj=>by
   have:=h (j+1) (by simpa using hj)
   rw[show i+1+j=i+(j+1) by omega]; simpa using this⟩
theorem loadCellsFrom_run {P:Program}{w:World}{a:Addr}:∀(cs:List Value) (i:Nat) (acc:Array Value),cellsAll w a cs i→
  (loadCellsFrom a i cs.length acc).run P w=.ok (acc++cs.toArray) w
 |[],i,acc,_=>by simp[loadCellsFrom]
 |c::cs,i,acc,h=>by
  have:=loadCellsFrom_run (P:=P) cs (i+1) (acc.push c) h.2
  simp only[List.length_cons,loadCellsFrom,load,Sem.run_bind,Sem.run,h.1,Result.andThen_ok,this]
  congr 1
  apply Array.ext'
  simp
theorem loadCells_run {P:Program}{w:World}{a:Addr}{cs:Array Value}(h:cellsAll w a cs.toList 0):(loadCells a cs.size).run P w=.ok cs w:=by
 have:=loadCellsFrom_run (P:=P) cs.toList 0 #[] h
 simpa[loadCells] using this
theorem isAgg_run {P:Program}{t:TypeId}{d:TypeDesc}(w:World) (hd:P.underlying t=some d):(isAgg t).run P w=.ok (isAggB d) w:=by
 unfold isAgg
 simp only[Sem.run_bind,underlying_run hd,Result.andThen_ok]
 cases d<;>rfl
theorem sizeOf_run {P:Program}{t:TypeId}{i:TypeInfo}(w:World) (hi:P.info? t=some i):(sizeOf t).run P w=.ok (P.cellsOf t) w:=by
 simp[sizeOf,typeInfo,program,Sem.run,hi,Program.cellsOf]
theorem info_of_underlying {P:Program}{t:TypeId}{d:TypeDesc}(h:P.underlying t=some d):∃i,P.info? t=some i:=by
 unfold Program.underlying at h
 split at h<;>first|exact⟨_,‹_›⟩|cases h
theorem vk1_one {P:Program}{t:TypeId}{k:TK}(h:vk1 P t=.one k):∃d,P.underlying t=some d∧isAggB d=false:=by
 unfold vk1 at h
 split at h
 ·rename_i d hd
  split at h
  ·split at h
   ·split at h<;>cases h
   ·cases h
  ·rename_i hn; exact⟨d,hd,by simpa using hn⟩
 ·cases h
theorem vk1_agg {P:Program}{t:TypeId}{ks:List TK}(h:vk1 P t=.agg ks):∃d,P.underlying t=some d∧isAggB d=true∧ks.length=P.cellsOf t:=by
 unfold vk1 at h
 split at h
 ·rename_i d hd
  split at h
  ·split at h
   ·split at h
    ·rename_i hc; cases h; simp at hc; exact⟨d,hd,‹_›,hc.2⟩
    ·cases h
   ·cases h
  ·cases h
 ·cases h
theorem vk1_big {P:Program}{t:TypeId}{n:Nat}(h:vk1 P t=.big n):∃d,P.underlying t=some d∧isAggB d=true∧n=P.cellsOf t:=by
 unfold vk1 at h
 split at h
 ·rename_i d hd
  split at h
  ·split at h
   ·split at h
    ·cases h
    ·cases h; exact⟨d,hd,‹_›,rfl⟩
   ·cases h; exact⟨d,hd,‹_›,rfl⟩
  ·cases h
 ·cases h
theorem loadAgg_run {P:Program}{t:TypeId}{d:TypeDesc}{w:World}{a:Addr}{cs:Array Value}(hd:P.underlying t=some d) (hg:isAggB d=true) (hs:cs.size=P.cellsOf t) (h:cellsAll w a cs.toList 0):
  (Instr.loadAt t (.pointer (some a))).run P w=.ok (.agg cs) w:=by
 obtain⟨i,hi⟩:=info_of_underlying hd
 simp only[Instr.loadAt,Instr.sureAddr,loadVar,Sem.run_bind,Sem.run_pure,Result.andThen_ok,isAgg_run w hd,hg,if_true,sizeOf_run w hi,←hs,loadCells_run h]
theorem loadOne_run {P:Program}{t:TypeId}{d:TypeDesc}{w:World}{a:Addr}{v:Value}(hd:P.underlying t=some d) (hg:isAggB d=false) (h:w.cell? a=some v):
  (Instr.loadAt t (.pointer (some a))).run P w=.ok v w:=by
 simp[Instr.loadAt,Instr.sureAddr,loadVar,isAgg_run w hd,hg,load,Sem.run,h]
theorem denLoad_does {P:Program}{t:TypeId}{a:Addr}{K:SV→World→Prop}{w:World}(h:denLoad P t a K w):Does P (do pure (.value (←Instr.loadAt t (.pointer (some a))))) w (Out K):=by
 unfold denLoad at h
 split at h
 ·rename_i n hk
  obtain⟨d,hd,hg,hn⟩:=vk1_big hk
  obtain⟨cs,hs,hb,hK⟩:=h
  refine does_v (loadAgg_run hd hg (by omega) (cellsAll_of_forall fun j hj=>?_)) (out_v hK)
  have:=hb j (by simpa using hj)
  simpa using this
 ·rename_i ks hv
  obtain⟨d,hd,hg,hn⟩:=vk1_agg hv
  obtain⟨vs,hl,hat,hK⟩:=exL_elim h
  exact does_v (loadAgg_run hd hg (by simpa using hl.trans hn) (by simpa using cellsAll_of_at hat)) (out_v hK)
 ·rename_i k hv
  obtain⟨d,hd,hg⟩:=vk1_one hv
  obtain⟨v,hat,hK⟩:=exT_elim h
  exact does_v (loadOne_run hd hg hat) (out_v hK)
 ·exact h.elim
theorem storeOne_run {P:Program}{t:TypeId}{i:TypeInfo}{w:World}{a:Addr}{v old:Value}(hi:P.info? t=some i) (h1:P.cellsOf t=1) (hv:scalar v=true) (ho:w.cell? a=some old) (hf:w.frozen? a=false):
  (Instr.storeAt t (.pointer (some a)) v).run P w=.ok () (w.setCell a v):=by
 have hc:v.cells=#[v]:=by cases v<;>first|rfl|cases hv
 have ha:a.add 0=a:=rfl
 cases v<;>first|(simp[scalar]at hv; done)|simp[Instr.storeAt,Instr.sureAddr,storeVar,sizeOf_run w hi,h1,hc,storeCells,store,Sem.run,ha,ho,hf]
theorem info_of_cells {P:Program}{t:TypeId}(h:P.cellsOf t=1):∃i,P.info? t=some i:=by
 unfold Program.cellsOf at h
 cases hi:P.info? t with
 |none=>rw[hi]at h; simp at h
 |some i=>exact⟨i,rfl⟩
theorem StL_run {P:Program}{a:Addr}{K:World→Prop}:∀{cs:List Value}{i:Nat}{w:World},StL a K cs i w→∃w',(storeCells a cs i).run P w=.ok () w'∧K w'
 |[],_,w,h=>⟨w,rfl,h⟩
 |c::cs,i,w,h=>by
  obtain⟨⟨old,ho⟩,hf,hv,h⟩:=h
  obtain⟨w',hrun,hK⟩:=StL_run (P:=P) h
  refine⟨w',?_,hK⟩
  cases c<;>first|(simp[scalar]at hv; done)|simp[storeCells,store,Sem.run,ho,hf,hrun]
theorem storeAgg_run {P:Program}{t:TypeId}{i:TypeInfo}{w w':World}{a:Addr}{cs:Array Value}(hi:P.info? t=some i) (hs:cs.size=P.cellsOf t) (h:(storeCells a cs.toList).run P w=.ok () w'):
  (Instr.storeAt t (.pointer (some a)) (.agg cs)).run P w=.ok () w':=by
 simp[Instr.storeAt,Instr.sureAddr,storeVar,Value.cells,sizeOf_run w hi,hs,h]
theorem denStore_does {P:Program}{t:TypeId}{a:Addr}{u:Value}{K:SV→World→Prop}{w:World}(h:denStore P t a u K w):Does P (do Instr.storeAt t (.pointer (some a)) u; pure .skip) w (Out K):=by
 unfold denStore at h
 split at h
 ·split at h
  ·rename_i h1
   obtain⟨⟨old,ho⟩,hf,hv,hK⟩:=h
   obtain⟨i,hi⟩:=info_of_cells h1
   exact does_u (storeOne_run hi h1 hv ho hf) (out_v hK)
  ·exact h.elim
 ·rename_i ks hk
  obtain⟨d,hd,hg,hn⟩:=vk1_agg hk
  obtain⟨i,hi⟩:=info_of_underlying hd
  split at h
  ·rename_i cs
   split at h
   ·rename_i hl
    obtain⟨w',hrun,hK⟩:=StL_run (P:=P) h
    exact does_u (storeAgg_run hi (by simpa using hl.trans hn) hrun) (out_v hK)
   ·exact h.elim
  ·exact h.elim
 ·obtain⟨w',h1,hK⟩:=h
  exact does_u h1 (out_v hK)
theorem litCells_run {P:Program}{t el:TypeId}{n:Nat}{parts:Array (Nat×Value)}{c:Array Value}{w:World}(h:litCells P t n parts.toList=some (c,el)):
  (Instr.buildSlice t n parts).run P w=.ok (.slice (some ⟨w.heap.size,0,none⟩) n n) (w.alloc (.cells c el)):=by
 unfold litCells at h
 split at h
 ·rename_i el' hu
  split at h
  ·rename_i i hi
   split at h
   ·cases h
   ·rename_i hb
    split at h
    ·rename_i z hz
     simp only[Option.map_eq_some_iff,Prod.mk.injEq]at h
     obtain⟨c',hc,rfl,rfl⟩:=h
     simp only[Instr.buildSlice,Sem.run_bind,underlying_run hu,Result.andThen_ok,sizeOf_run w hi,hb,if_false]
     by_cases h0:n*P.cellsOf el'=0
     ·rw[if_pos h0]at hz; cases hz
      simp only[h0,if_true,Sem.run_bind,Sem.run_pure,Result.andThen_ok]
      rw[h0]at hc
      simp only[hc,newRow,newObj,Sem.run_bind,Sem.run,Sem.run_pure,Result.andThen_ok]
      rfl
     ·rw[if_neg h0]at hz
      simp only[Option.map_eq_some_iff]at hz
      obtain⟨v,hv,rfl⟩:=hz
      simp only[h0,if_false,zeroValue,typeInfo,program,Sem.run_bind,Sem.run,hi,hv,Sem.run_pure,Result.andThen_ok,hc,newRow,newObj]
      rfl
    ·cases h
  ·cases h
 ·cases h
theorem newVar_run {P:Program}{t:TypeId}{v:Value}{w:World}:(newVar t v).run P w=.ok ⟨w.heap.size,0,none⟩ (w.alloc (.cells v.cells t)):=by
 simp only[newVar,newRow,newObj,Sem.run_bind,Sem.run,Result.andThen_ok,Sem.run_pure]; rfl
theorem alloc_run {P:Program}{t:TypeId}{z:Array Value}{w:World}(h:zc P t=some z):(Instr.alloc t true (.tuple #[])).run P w=.ok (.pointer (some ⟨w.heap.size,0,none⟩)) (w.alloc (.cells z t)):=by
 unfold zc at h
 cases hi:P.info? t with
 |none=>rw[hi]at h; simp at h
 |some i=>
  rw[hi]at h
  simp only[Option.bind_some]at h
  cases hz:i.zero with
  |none=>rw[hz]at h; simp at h
  |some v=>
   rw[hz]at h
   simp only[Option.map_some,Option.some.injEq]at h
   subst h
   simp[Instr.alloc,zeroValue,typeInfo,program,Sem.run,hi,hz,newVar_run]
theorem fieldOff_run {P:Program}{t:TypeId}{i off:Nat}{a:Addr}(w:World) (h:fieldOff P t i=some off):(Instr.fieldAt t (.pointer (some a)) i).run P w=.ok (.pointer (some (a.add off))) w:=by
 unfold fieldOff at h
 split at h
 ·rename_i fs hu
  split at h
  ·rename_i f hf
   split at h
   ·cases h
   ·rename_i hc
    cases h
    cases hi:P.info? f.type with
    |none=>rw[Program.cellsOf,hi]at hc; simp at hc
    |some j=>
     simp[Instr.fieldAt,underlying_run hu,hf,Instr.sureAddr,fieldPlace,sizeOf_run w hi,hc]
  ·cases h
 ·cases h
theorem indexAddr_pures {P:Program}{t:TypeId}{vx vi:Value}{K:SV→Prop}(h:denIndexAddr P t vx vi K):Pures P (do pure (.value (←Instr.indexAt t vx vi))) K:=by
 unfold denIndexAddr at h
 split at h
 ·rename_i k i
  split at h
  ·rename_i el p len c hu
   split at h
   ·exact h.elim
   ·rename_i hn
    obtain⟨j,hj⟩:=Option.ne_none_iff_exists'.1 (fun(e:P.info? el=none)=>hn (by rw[e]; rfl))
    obtain⟨a,rfl,h0,h1,hK⟩:=h
    exact pures_v (fun w=>by simp[Instr.indexAt,asIntOf,underlying_run hu,h0,h1,sizeOf_run w hj]) hK
  ·rename_i len el a hu
   split at h
   ·exact h.elim
   ·rename_i hn
    obtain⟨j,hj⟩:=Option.ne_none_iff_exists'.1 (fun(e:P.info? el=none)=>hn (by rw[e]; rfl))
    obtain⟨h0,h1,hK⟩:=h
    exact pures_v (fun w=>by simp[Instr.indexAt,asIntOf,underlying_run hu,h0,h1,sizeOf_run w hj,Instr.sureAddr]) hK
  ·exact h.elim
 ·exact h.elim
structure Callable (P:Program):Prop where
 name : ∀ (f : Nat) (fn : Func), P.funcs[f]? = some fn → fn.body.isSome = true → (fn.name == "runtime.NumGoroutine") = false
theorem callK_does {P:Program}(hP:Callable P){f:FuncId}{first captured:Array Value}{args:List Value}{k:VK}{K:SV→World→Prop}{w:World}(hb:bodyB P f=true)
  (h:callK P f (first.toList++args++captured.toList) k K w):Does P (callV (.func (.func f) first captured) args) w (Out K):=by
 unfold bodyB at hb
 split at hb
 ·rename_i fn hf
  have hn:=hP.name f fn hf hb
  have hbn:fn.body.isNone=false:=by cases hx:fn.body<;>simp_all
  have hrun:(callV (.func (.func f) first captured) args).run P w=.ok (.enter f (first.toList++args++captured.toList).toArray) w:=by
   have h1:(callV (.func (.func f) first captured) args).run P w=(callFunc f ((first++args.toArray)++captured)).run P w:=by
    simp[callV,Deferred.ofValue,invoke]
   have h2:(first++args.toArray)++captured=(first.toList++args++captured.toList).toArray:=by apply Array.ext'; simp
   rw[h1,h2]
   simp only[callFunc,program,Sem.run_bind,Sem.run,Result.andThen_ok,hf,hn,hbn,Bool.false_eq_true,if_false]
   rfl
  unfold Does
  rw[hrun]
  exact Calls.mono h fun e w' he=>by
   obtain⟨v,he,hK⟩:=exV_elim he
   exact⟨v,he,out_v hK⟩
 ·cases hb
theorem denCall_does {P:Program}(hP:Callable P){o:Oper}{c:Call}{e:Env}{a:Act}{K:SV→World→Prop}{w:World}(hr:Rel e a.tmps) (ho:o.op=.call c) (h:denCall P c o.type e K w):
  Does P (execOp a.eval o) w (Out K):=by
 have he:execOp a.eval o=(do let d ←resolve a.eval c o.type; invoke d.target d.args):=by simp only[execOp,ho]
 rw[he]
 unfold denCall at h
 split at h
 ·rename_i f hc
  have h:=wvs_ev hr (wv_ev hr h)
  have hres:(do let d ←resolve a.eval c o.type; invoke d.target d.args)=callV (a.eval f) (c.args.toList.map a.eval):=by
   simp only[resolve,hc,callV]
   congr 2
   apply Array.ext'
   simp
  rw[hres]
  unfold CallF at h
  split at h
  ·rename_i g first captured hg
   rw[hg]
   split at h
   ·exact callK_does hP ‹_› h
   ·exact h.elim
  ·exact Does.mono h fun v w' hv=>by
    obtain⟨v',e',hK⟩:=exV_elim hv
    cases e'
    exact out_v hK
 ·rename_i b hc
  have h:=wvs_ev hr h
  have hargs:(c.args.toList.map a.eval).toArray=c.args.map a.eval:=by apply Array.ext'; simp
  have hres:(do let d ←resolve a.eval c o.type; invoke d.target d.args)=builtin b c.argTypes o.type (c.args.map fun|.const _=>true|_=>false) (c.args.map a.eval):=by
   simp only[resolve,hc]; rfl
  rw[hres]
  obtain⟨v,w',hrun,hK⟩:=exV_elim h
  rw[hargs]at hrun
  exact does_val hrun (out_v hK)
 ·exact h.elim
theorem denLen_pures {P:Program}{o:Oper}{c:Call}{e:Env}{a:Act}{K:SV→Prop}(hr:Rel e a.tmps) (ho:o.op=.call c) (hl:isLen P c=true) (h:denLen P c e K):Pures P (execOp a.eval o) K:=by
 have he:execOp a.eval o=(do let d ←resolve a.eval c o.type; invoke d.target d.args):=by simp only[execOp,ho]
 rw[he]
 unfold isLen at hl
 split at hl
 ·rename_i hc
  unfold denLen at h
  have h:=wvs_ev hr h
  have hargs:(c.args.toList.map a.eval).toArray=c.args.map a.eval:=by apply Array.ext'; simp
  have hres:(do let d ←resolve a.eval c o.type; invoke d.target d.args)=builtin .len c.argTypes o.type (c.args.map fun|.const _=>true|_=>false) (c.args.map a.eval):=by
   simp only[resolve,hc]; rfl
  rw[hres]
  split at h
  ·rename_i v hv
   have hlen:c.args.map a.eval=#[v]:=by rw[←hargs,hv]
   rw[hlen]
   obtain⟨t,ht⟩:∃t,c.argTypes[0]?=some t:=by
    cases hx:c.argTypes[0]? with
    |none=>rw[hx]at hl; cases hl
    |some t=>exact⟨t,rfl⟩
   rw[ht]at h
   simp only[Option.bind_some]at h
   unfold lenI at h
   split at h
   ·rename_i hu
    exact pures_val (fun w=>by simp[builtin,Builtin.len_,ht,underlying_run hu,goInt]) h
   ·rename_i hu
    exact pures_val (fun w=>by simp[builtin,Builtin.len_,ht,underlying_run hu,goInt]) h
   ·exact h.elim
  ·exact h.elim
 ·cases hl
theorem parts_zip {ρ:Operand→Value}(parts:Array (Nat×Operand)):((parts.toList.map (·.1)).zip ((parts.toList.map (·.2)).map ρ)).toArray=parts.map (fun(i,x)=>(i,ρ x)):=by
 apply Array.ext'
 simp only[Array.toList_map]
 generalize parts.toList=l
 induction l with
 |nil=>rfl
 |cons x xs ih=>simp only[List.map_cons,List.zip_cons_cons,ih]
theorem opt_head {ρ:Operand→Value}(o:Option Operand):(o.toList.map ρ).head?=o.map ρ:=by cases o<;>rfl
theorem mv_pures {P:Program}{s:SV}{K:SV→Prop}{e:Env}{a:Act}{x:Operand}(hr:Rel e a.tmps) (hs:s=ev e x) (h:mv s K):Pures P (pure (.value (a.eval x))) K:=by
 unfold mv at h
 cases hv:s.val? with
 |none=>cases s<;>first|exact h.elim|cases hv
 |some v=>
  have:a.eval x=v:=ev_val hr x (hs▸hv)
  rw[this]
  exact⟨v,s,fun _=>rfl,hv,by cases s<;>first|exact h|cases hv⟩
theorem denPure_pures {P:Program}{o:Oper}{e:Env}{a:Act}{K:SV→Prop}(hp:isPure P o=true) (hr:Rel e a.tmps) (h:denPure P o e K):Pures P (execOp a.eval o) K:=by
 unfold denPure at h
 split at h
 case h_1 x ho=>simp only[execOp,ho]; exact mv_pures hr rfl h
 case h_2 x ho=>simp only[execOp,ho]; exact mv_pures hr rfl h
 case h_3 c x y ho=>
  simp only[execOp,ho]
  have key:∀b:Bool,a.eval c=.bool b→Pures P (pure (.value (if b then a.eval x else a.eval y))) K→Pures P (do pure (Next.value (if ←asBool (a.eval c) then a.eval x else a.eval y))) K:=by
   intro b hb ⟨v,sv,h1,h2,h3⟩
   exact⟨v,sv,fun w=>by rw[←h1 w]; simp[hb,asBool],h2,h3⟩
  unfold pick3 at h
  split at h
  ·rename_i hc
   exact key true (ev_val hr c (by rw[hc]; rfl)) (mv_pures hr rfl (show mv (ev e x) K from h))
  ·rename_i hc
   exact key false (ev_val hr c (by rw[hc]; rfl)) (mv_pures hr rfl (show mv (ev e y) K from h))
  ·rename_i b hc
   refine key b (ev_val hr c (by rw[hc]; rfl)) ?_
   cases b with
   |true=>exact mv_pures hr rfl (h.1 rfl)
   |false=>exact mv_pures hr rfl (h.2 rfl)
  ·exact h.elim
 case h_4 t parts ho=>
  simp only[execOp,ho]
  have h:=wvs_ev hr h
  rw[parts_zip]at h
  exact pureK_pures h
 case h_5 x ho=>
  have h:=wv_ev hr h
  simp only[execOp,ho]
  split at h
  ·rename_i p hp
   obtain⟨a',rfl,hK⟩:=h
   rw[hp]
   exact pures_val (fun _=>rfl) hK
  ·rename_i f first cap hp
   rw[hp]
   exact pures_val (fun _=>rfl) h
  ·obtain⟨hn,hK⟩:=h
   generalize hv:a.eval x=v at *
   cases v with
   |pointer p=>cases p<;>first|exact hn.elim|exact pures_val (fun _=>rfl) hK
   |func fn first cap=>cases fn<;>first|exact hn.elim|exact pures_val (fun _=>rfl) hK
   |_=>first|exact hn.elim|exact pures_val (fun _=>rfl) hK
 case h_6 op t x y yt ho=>exact denBin_pures hr ho h
 case h_7 op t x ho=>
  simp only[execOp,ho]
  split at h
  ·unfold notB at h
   split at h
   ·rename_i hs
    rw[ev_val hr x (by rw[hs]; rfl)]
    exact⟨.bool false,.f,fun _=>rfl,rfl,h⟩
   ·rename_i hs
    rw[ev_val hr x (by rw[hs]; rfl)]
    exact⟨.bool true,.t,fun _=>rfl,rfl,h⟩
   ·rename_i b hs
    rw[ev_val hr x (by rw[hs]; rfl)]
    exact⟨.bool !b,.v (.bool !b),fun _=>rfl,rfl,h⟩
   ·exact h.elim
  ·exact pureK_pures (wv_ev hr h)
 case h_8 src dst x ho=>
  simp only[execOp,ho]
  have h:=wv_ev hr h
  have hcv:pureCv P src dst=true:=by unfold isPure at hp; rw[ho]at hp; exact hp
  unfold pureCv at hcv
  split at hcv
  ·rename_i ks kd hs hd
   unfold cvI at h
   split at h
   ·rename_i k n k' hx hd'
    rw[hx]
    refine pures_v (v:=.int k' (k'.wrap n)) (fun w=>?_) h
    unfold convert
    simp only[Sem.run_bind,underlying_run hs,underlying_run hd',Result.andThen_ok]
    rfl
   ·exact h.elim
  ·cases hcv
 case h_9 fn first cap ho=>
  simp only[execOp,ho]
  have h:=wvs_ev hr (wvs_ev hr h)
  have e1:(first.toList.map a.eval).toArray=first.map a.eval:=by apply Array.ext'; simp
  have e2:(cap.toList.map a.eval).toArray=cap.map a.eval:=by apply Array.ext'; simp
  rw[e1,e2]at h
  exact pures_v (fun _=>rfl) h
 case h_10 t x i ho=>
  simp only[execOp,ho]
  have h:=wv_ev hr h
  split at h
  ·rename_i a' off ha hf
   rw[ha]
   exact pures_v (fun w=>fieldOff_run w hf) h
  ·exact h.elim
 case h_11 t x i ho=>simp only[execOp,ho]; exact pureK_pures (wv_ev hr h)
 case h_12 t x i ho=>simp only[execOp,ho]; exact indexAddr_pures (wv_ev hr (wv_ev hr h))
 case h_13 x i ho=>simp only[execOp,ho]; exact pureK_pures (wv_ev hr h)
 case h_14 c ho=>exact denLen_pures hr ho (by unfold isPure at hp; rw[ho]at hp; exact hp) h
 case h_15=>exact h.elim
theorem semOf_exec {o:Oper}{e:Env}{a:Act}{k:Sem Value→Prop}(hr:Rel e a.tmps) (h:semOf o e k):∃s:Sem Value,execOp a.eval o=(do pure (.value (←s)))∧k s:=by
 unfold semOf at h
 split at h
 case h_1 ho=>exact⟨_,by simp only[execOp,ho],wv_ev hr (wv_ev hr h)⟩
 case h_2 ho=>exact⟨_,by simp only[execOp,ho],wv_ev hr h⟩
 case h_3 t x lo hi mx ho=>
  have h:=wvs_ev hr (wvs_ev hr (wvs_ev hr (wv_ev hr h)))
  rw[opt_head,opt_head,opt_head]at h
  exact⟨_,by simp only[execOp,ho],h⟩
 case h_4 ho=>exact⟨_,by simp only[execOp,ho],wv_ev hr (wv_ev hr h)⟩
 case h_5 ho=>exact⟨_,by simp only[execOp,ho],wv_ev hr (wv_ev hr h)⟩
 case h_6 ho=>exact⟨_,by simp only[execOp,ho],wv_ev hr h⟩
 case h_7 ho=>exact⟨_,by simp only[execOp,ho],wv_ev hr (wv_ev hr h)⟩
 case h_8 ho=>exact⟨_,by simp only[execOp,ho],wv_ev hr (wv_ev hr h)⟩
 case h_9 ho=>exact⟨_,by simp only[execOp,ho],wv_ev hr h⟩
 case h_10 ho=>exact⟨_,by simp only[execOp,ho],wv_ev hr h⟩
 case h_11 ho=>exact⟨_,by simp only[execOp,ho],wv_ev hr h⟩
 case h_12=>exact h.elim
theorem semOf_nodefer {o:Oper}{e:Env}{k:Sem Value→Prop}(h:semOf o e k):notDefer o.op=true:=by
 unfold semOf at h
 split at h<;>first|exact h.elim|(rename_i ho; rw[ho]; rfl)
theorem denPure_nodefer {P:Program}{o:Oper}(h:isPure P o=true):notDefer o.op=true:=by
 unfold isPure at h
 split at h<;>first|(rename_i ho; rw[ho]; rfl)|cases h
theorem nextK_does {P:Program}{s:Sem Value}{K:SV→World→Prop}{w:World}(h:nextK P s K w):Does P (do pure (.value (←s))) w (Out K):=by
 rcases h with⟨w',hr,hk⟩|⟨k,v,w',hr,hk⟩
 ·exact does_v (by simp[hr]) (out_v hk)
 ·exact does_v (by simp[hr]) (out_v hk)
theorem denOp_does {P:Program}(hP:Callable P){o:Oper}{e:Env}{a:Act}{K:SV→World→Prop}{w:World}(hr:Rel e a.tmps) (h:denOp P o e K w):
  Does P (execOp a.eval o) w (Out K)∧notDefer o.op=true:=by
 unfold denOp at h
 split at h
 ·rename_i hp
  exact⟨(denPure_pures hp hr h).does,denPure_nodefer hp⟩
 split at h
 case h_1 t ho=>
  refine⟨?_,by rw[ho]; rfl⟩
  simp only[execOp,ho]
  split at h
  ·exact does_v (alloc_run ‹_›) (out_v h)
  ·exact h.elim
 case h_2 t x ho=>
  refine⟨?_,by rw[ho]; rfl⟩
  simp only[execOp,ho]
  have h:=wv_ev hr h
  exact does_v (w':=w.alloc (.cells (a.eval x).cells t)) (by simp only[Instr.box,Sem.run_bind,newVar_run,Result.andThen_ok,Sem.run_pure]) (out_v h)
 case h_3 t x ho=>
  refine⟨?_,by rw[ho]; rfl⟩
  simp only[execOp,ho]
  have h:=wv_ev hr h
  split at h
  ·rename_i a' ha; rw[ha]; exact denLoad_does h
  ·exact h.elim
 case h_4 t x y ho=>
  refine⟨?_,by rw[ho]; rfl⟩
  simp only[execOp,ho]
  have h:=wv_ev hr (wv_ev hr h)
  split at h
  ·rename_i a' ha; rw[ha]; exact denStore_does h
  ·exact h.elim
 case h_5 t n parts ho=>
  refine⟨?_,by rw[ho]; rfl⟩
  simp only[execOp,ho]
  have h:=wvs_ev hr h
  have hz:=congrArg Array.toList (parts_zip (ρ:=a.eval) parts)
  simp only at hz
  rw[hz]at h
  split at h
  ·exact semK_does h
  split at h
  ·exact does_v (litCells_run ‹_›) (out_v h)
  ·exact h.elim
 case h_6 t ho=>
  refine⟨?_,by rw[ho]; rfl⟩
  simp only[execOp,ho]
  exact does_v (v:=.map (some w.heap.size)) (w':=w.alloc (.map #[] 0)) rfl (out_v h)
 case h_7 t m k x ho=>
  refine⟨?_,by rw[ho]; rfl⟩
  simp only[execOp,ho]
  exact unitK_does (wv_ev hr (wv_ev hr (wv_ev hr h)))
 case h_8 t m k x ho=>
  refine⟨?_,by rw[ho]; rfl⟩
  simp only[execOp,ho]
  exact unitK_does (wv_ev hr (wv_ev hr (wv_ev hr h)))
 case h_9 t m s x ho=>
  refine⟨?_,by rw[ho]; rfl⟩
  simp only[execOp,ho]
  exact unitK_does (wv_ev hr (wv_ev hr (wv_ev hr h)))
 case h_10 c ho=>exact⟨denCall_does hP hr ho h,by rw[ho]; rfl⟩
 case h_11=>obtain⟨s,hs,hk⟩:=semOf_exec hr h; rw[hs]; exact⟨nextK_does hk,semOf_nodefer h⟩
 case h_14=>obtain⟨s,hs,hk⟩:=semOf_exec hr h; rw[hs]; exact⟨semK_does hk,semOf_nodefer h⟩
 case h_15=>obtain⟨s,hs,hk⟩:=semOf_exec hr h; rw[hs]; exact⟨semK_does hk,semOf_nodefer h⟩
 case h_12=>obtain⟨s,hs,hk⟩:=semOf_exec hr h; rw[hs]; exact⟨semK_does hk,semOf_nodefer h⟩
 case h_13=>obtain⟨s,hs,hk⟩:=semOf_exec hr h; rw[hs]; exact⟨semK_does hk,semOf_nodefer h⟩
def QVal (P:Program) (D:World→Prop) (s:Sem Next) (K:SV→Prop):Prop:=∃v sv,(∀w,D w→s.run P w=.ok (.value v) w)∧sv.val?=some v∧K sv
theorem denLoadQ_q {P:Program}{D:World→Prop}{t:TypeId}{a:Addr}{K:SV→Prop}(h:denLoadQ P D t a K):QVal P D (do pure (.value (←Instr.loadAt t (.pointer (some a))))) K:=by
 unfold denLoadQ at h
 split at h
 ·rename_i n hk
  obtain⟨d,hd,hg,hn⟩:=vk1_big hk
  obtain⟨cs,hs,hb,hK⟩:=h
  refine⟨.agg cs,.v (.agg cs),fun w hw=>?_,rfl,hK⟩
  have:=loadAgg_run (P:=P) (w:=w) (a:=a) hd hg (by omega) (cellsAll_of_forall (cs:=cs.toList) (i:=0) fun j hj=>by simpa using hb w hw j (by simpa using hj))
  simp[this]
 ·rename_i ks hv
  obtain⟨d,hd,hg,hn⟩:=vk1_agg hv
  obtain⟨vs,hl,hat,hK⟩:=exL_elim h
  refine⟨.agg vs.toArray,.v (.agg vs.toArray),fun w hw=>?_,rfl,hK⟩
  have:=loadAgg_run (P:=P) (w:=w) (a:=a) (cs:=vs.toArray) hd hg (by simpa using hl.trans hn) (by simpa using cellsAll_of_at (hat w hw))
  simp[this]
 ·rename_i k hv
  obtain⟨d,hd,hg⟩:=vk1_one hv
  obtain⟨v,hat,hK⟩:=exT_elim h
  exact⟨v,.v v,fun w hw=>by simp[loadOne_run hd hg (hat w hw)],rfl,hK⟩
 ·exact h.elim
theorem denQ_q {P:Program}{D:World→Prop}{o:Oper}{e:Env}{a:Act}{K:SV→Prop}(hr:Rel e a.tmps) (h:denQ P D o e K):
  QVal P D (execOp a.eval o) K∧notDefer o.op=true:=by
 unfold denQ at h
 split at h
 ·rename_i hp
  obtain⟨v,sv,h1,h2,h3⟩:=denPure_pures hp hr h
  exact⟨⟨v,sv,fun w _=>h1 w,h2,h3⟩,denPure_nodefer hp⟩
 split at h
 ·rename_i t x ho
  refine⟨?_,by rw[ho]; rfl⟩
  simp only[execOp,ho]
  have h:=wv_ev hr h
  split at h
  ·rename_i a' ha; rw[ha]; exact denLoadQ_q h
  ·exact h.elim
 ·obtain⟨s,hs,hk⟩:=semOf_exec hr h
  refine⟨?_,semOf_nodefer h⟩
  rw[hs]
  obtain⟨v,h1,h2⟩:=exV_elim hk
  exact⟨v,.v v,fun w hw=>by simp[h1 w hw],rfl,h2⟩
def YD (P:Program) (ops:Array Oper) (D:World→Prop) (o:Oper) (v:Value) (a:Act):Prop:=
 (Region.wanted o (yielded ops a.tmps)=true∧∀w,D w→(execOp a.eval o).run P w=.ok (.value v) w)∨
 (Region.wanted o (yielded ops a.tmps)=false∧v=undef)
def louD (P:Program) (ops:Array Oper) (D:World→Prop) (fin:Bool) (o:Oper) (K:Act→World→Prop) (a:Act) (w:World):Prop:=
 if Region.wanted o (yielded ops a.tmps) then (Does P (execOp a.eval o) w fun v w'=>(fin=true∨D w')∧K (a.put o.dst v) w')∧notDefer o.op=true else K (a.put o.dst undef) w
def atD (late:Nat→Bool) (D:World→Prop) (i:Nat) (w:World):World→Prop:=if late i=true then (fun x=>x=w) else D
theorem atD_self {late:Nat→Bool}{D:World→Prop}{i:Nat}{w:World}(h:D w):atD late D i w w:=by
 unfold atD; split
 ·rfl
 ·exact h
def stepD (P:Program) (L:Oper→Bool) (ops:Array Oper) (fin late:Nat→Bool) (D:World→Prop) (i:Nat) (K:Act→World→Prop) (a:Act) (w:World):Prop:=
 match ops[i]? with
 |none=>False
 |some o=>if L o then louD P ops D (fin i) o K a w else (∃v,YD P ops (atD late D i w) o v a∧K (a.put o.dst v) w)∧notDefer o.op=true
def anyD (P:Program) (L:Oper→Bool) (ops:Array Oper) (fin late:Nat→Bool) (D:World→Prop) (Q:Act→World→Prop):Nat→Array Bool→Act→World→Prop
 |0,listed,a,w=>Region.ready .any ops listed=[]∧Q a w
 |fuel+1,listed,a,w=>(Region.ready .any ops listed=[]→Q a w)∧
  ∀i∈Region.ready .any ops listed,stepD P L ops fin late D i (anyD P L ops fin late D Q fuel (listed.setIfInBounds i true)) a w
def Closed (ops:Array Oper) (listed:Array Bool):Prop:=∀(j:Nat) (o:Oper),ops[j]?=some o→listed.getD j false=true→∀e∈o.after,Region.binds .any e=true→listed.getD e.on false=true
def reachB (ops:Array Oper):Nat→Nat→Nat→Bool
 |0,_,_=>false
 |n+1,j,k=>match ops[j]? with
  |some o=>o.after.any fun e=>Region.binds .any e&&(e.on==k||reachB ops n e.on k)
  |none=>false
section
variable {P:Program}{L:Oper→Bool}{ops:Array Oper}{fin late:Nat→Bool}{D:World→Prop}{Q:Act→World→Prop}
theorem reach_unlisted {listed:Array Bool}{k:Nat}(hc:Closed ops listed) (hk:listed.getD k false=false):∀(n j:Nat),reachB ops n j k=true→listed.getD j false=false
 |0,_,h=>by simp[reachB]at h
 |n+1,j,h=>by
  simp only[reachB]at h
  split at h
  ·rename_i o ho
   cases hl:listed.getD j false with
   |false=>rfl
   |true=>
    obtain⟨e,he,hb⟩:=Array.any_eq_true'.1 h
    simp only[Bool.and_eq_true,Bool.or_eq_true,beq_iff_eq]at hb
    have h1:=hc j o ho hl e he hb.1
    rcases hb.2 with h2|h2
    ·rw[h2,hk]at h1; cases h1
    ·rw[reach_unlisted hc hk n e.on h2]at h1; cases h1
  ·cases h
theorem reach_not_ready {listed:Array Bool}{k:Nat}(hc:Closed ops listed) (hk:listed.getD k false=false){n j:Nat}(h:reachB ops n j k=true):j∉Region.ready .any ops listed:=by
 intro hj
 obtain⟨_,o,ho,hall⟩:=mem_ready.1 hj
 cases n with
 |zero=>simp[reachB]at h
 |succ n=>
  simp only[reachB,ho]at h
  obtain⟨e,he,hb⟩:=Array.any_eq_true'.1 h
  simp only[Bool.and_eq_true,Bool.or_eq_true,beq_iff_eq]at hb
  have h1:=hall e he hb.1
  rcases hb.2 with h2|h2
  ·rw[h2,hk]at h1; cases h1
  ·rw[reach_unlisted hc hk n e.on h2]at h1; cases h1
theorem Closed.add {listed:Array Bool}{i:Nat}(hc:Closed ops listed) (hi:i∈Region.ready .any ops listed):Closed ops (listed.setIfInBounds i true):=by
 intro j o ho hl e he hb
 by_cases hij:i=j
 ·subst hij
  obtain⟨_,o',ho',hall⟩:=mem_ready.1 hi
  rw[ho]at ho'; cases ho'
  exact getD_set_true (hall e he hb)
 ·rw[getD_set_ne false hij]at hl
  exact getD_set_true (hc j o ho hl e he hb)
def Late (L:Oper→Bool) (ops:Array Oper) (late:Nat→Bool):Prop:=∀(i:Nat) oi (j:Nat) oj,late i=true→ops[i]?=some oi→ops[j]?=some oj→L oj=true→∃n,reachB ops n i j=true∨reachB ops n j i=true
theorem unlisted_of_ready {listed:Array Bool}{i:Nat}(hr:i∈Region.ready .any ops listed):listed.getD i false=false:=by
 have h0:=(mem_ready.1 hr).1
 rcases Nat.lt_or_ge i listed.size with h'|h'
 ·simp[h']at h0⊢; exact h0
 ·simp[Array.getElem?_eq_none h']
def Fin (ops:Array Oper) (fin:Nat→Bool):Prop:=∀i,fin i=true→i+1=ops.size∧∀j,j<ops.size→j≠i→∃n,reachB ops n i j=true
theorem Fin.others {listed:Array Bool}(hf:Fin ops fin) (hc:Closed ops listed){i j:Nat}(hi:fin i=true) (hr:i∈Region.ready .any ops listed) (hj:j<ops.size) (hji:j≠i):listed.getD j false=true:=by
 cases hl:listed.getD j false with
 |true=>rfl
 |false=>
  obtain⟨n,hn⟩:=(hf i hi).2 j hj hji
  exact absurd hr (reach_not_ready hc hl hn)
theorem Fin.alone {listed:Array Bool}(hf:Fin ops fin) (hc:Closed ops listed){i j:Nat}(hr:i∈Region.ready .any ops listed) (hj:j∈Region.ready .any ops listed) (hji:j≠i):fin i=false:=by
 cases hi:fin i with
 |false=>rfl
 |true=>
  obtain⟨h0,o,ho,_⟩:=mem_ready.1 hj
  have h1:=hf.others hc hi hr (Array.getElem?_eq_some_iff.1 ho).1 hji
  rcases Nat.lt_or_ge j listed.size with h'|h'
  ·simp[h']at h0 h1; rw[h0]at h1; cases h1
  ·simp[h']at h0
theorem Fin.done {listed:Array Bool}(hf:Fin ops fin) (hc:Closed ops listed){i:Nat}(hi:fin i=true) (hr:i∈Region.ready .any ops listed):Region.ready .any ops (listed.setIfInBounds i true)=[]:=by
 cases h:Region.ready .any ops (listed.setIfInBounds i true) with
 |nil=>rfl
 |cons x xs=>
  exfalso
  have hx:x∈Region.ready .any ops (listed.setIfInBounds i true):=by rw[h]; exact List.mem_cons_self
  obtain⟨h0,o,ho,_⟩:=mem_ready.1 hx
  have hxs:x<ops.size:=(Array.getElem?_eq_some_iff.1 ho).1
  by_cases hxi:x=i
  ·subst hxi
   have h1:=(mem_ready.1 hr).1
   rcases Nat.lt_or_ge x listed.size with h'|h'
   ·simp[h']at h0
   ·simp[h']at h1
  ·have h1:=hf.others hc hi hr hxs hxi
   rcases Nat.lt_or_ge x listed.size with h'|h'
   ·rw[getD_set_ne true (Ne.symm hxi)]at h0
    simp[h']at h0 h1; rw[h0]at h1; cases h1
   ·simp[h']at h1
def Fin2 (L:Oper→Bool) (ops:Array Oper) (fin late:Nat→Bool):Prop:=∀i,fin i=true→(∀j,j<i→j<ops.size→∃n,reachB ops n i j=true)∧∀j oj,i<j→ops[j]?=some oj→late j=true∧L oj=false∧∃n,reachB ops n j i=true
theorem Fin.two (hf:Fin ops fin):Fin2 L ops fin late:=fun i hi=>⟨fun j hj hs=>(hf i hi).2 j hs (Nat.ne_of_lt hj),fun j oj hj ho=>by
 have h1:=(hf i hi).1
 have h2:=(Array.getElem?_eq_some_iff.1 ho).1
 omega⟩
def Tail (L:Oper→Bool) (ops:Array Oper) (late:Nat→Bool) (listed:Array Bool):Prop:=∀j oj,ops[j]?=some oj→listed.getD j true=false→late j=true∧L oj=false
theorem getD_set_un {listed:Array Bool}{i j:Nat}(h:(listed.setIfInBounds i true).getD j true=false):listed.getD j true=false∧j≠i:=by
 by_cases hji:i=j
 ·subst hji
  exfalso
  rcases Nat.lt_or_ge i listed.size with h'|h'
  ·simp[h']at h
  ·simp[h']at h
 ·rw[getD_set_ne true hji]at h
  exact⟨h,fun e=>hji e.symm⟩
theorem getD_un {listed:Array Bool}{j:Nat}(h:listed.getD j true=false):listed.getD j false=false:=by
 rcases Nat.lt_or_ge j listed.size with h'|h'
 ·simp[h']at h⊢; exact h
 ·simp[h']at h
theorem Tail.set {listed:Array Bool}(h:Tail L ops late listed) (i:Nat):Tail L ops late (listed.setIfInBounds i true):=fun j oj ho hun=>h j oj ho (getD_set_un hun).1
theorem Fin2.alone {listed:Array Bool}(hf:Fin2 L ops fin late) (hc:Closed ops listed){i j:Nat}(hr:i∈Region.ready .any ops listed) (hj:j∈Region.ready .any ops listed) (hji:j≠i):fin i=false:=by
 cases hi:fin i with
 |false=>rfl
 |true=>
  exfalso
  obtain⟨_,oj,hoj,_⟩:=mem_ready.1 hj
  rcases Nat.lt_or_gt_of_ne hji with hlt|hgt
  ·obtain⟨n,hn⟩:=(hf i hi).1 j hlt (Array.getElem?_eq_some_iff.1 hoj).1
   exact absurd hr (reach_not_ready hc (unlisted_of_ready hj) hn)
  ·obtain⟨_,_,n,hn⟩:=(hf i hi).2 j oj hgt hoj
   exact absurd hj (reach_not_ready hc (unlisted_of_ready hr) hn)
theorem Fin2.tail {listed:Array Bool}(hf:Fin2 L ops fin late) (hc:Closed ops listed){i:Nat}(hi:fin i=true) (hr:i∈Region.ready .any ops listed):Tail L ops late (listed.setIfInBounds i true):=by
 intro j oj hoj hun
 obtain⟨h1,hji⟩:=getD_set_un hun
 rcases Nat.lt_or_gt_of_ne hji with hlt|hgt
 ·obtain⟨n,hn⟩:=(hf i hi).1 j hlt (Array.getElem?_eq_some_iff.1 hoj).1
  exact absurd hr (reach_not_ready hc (getD_un h1) hn)
 ·obtain⟨h2,h3,_⟩:=(hf i hi).2 j oj hgt hoj
  exact⟨h2,h3⟩
theorem louD_mono {f:Bool}{o:Oper}{K K':Act→World→Prop}{a:Act}{w:World}(hw:D w) (h:louD P ops D f o K a w) (hk:∀a w,(f=true∨D w)→K a w→K' a w):louD P ops D f o K' a w:=by
 unfold louD at *
 split
 ·rename_i hx
  simp only[hx,if_true]at h
  exact⟨Does.mono h.1 fun v w' hv=>⟨hv.1,hk _ _ hv.1 hv.2⟩,h.2⟩
 ·rename_i hx
  simp only[hx]at h
  exact hk _ _ (.inr hw) h
theorem anyD_wp {ro:Option Nat}{Q':Exit→Act→World→Prop}(hfin:Fin2 L ops fin late) (hQ:∀a w,Q a w→Q' .normal a w):∀(fuel:Nat) (listed:Array Bool) (a:Act) (w:World),Closed ops listed→(D w∨Tail L ops late listed)→
  anyD P L ops fin late D Q fuel listed a w→wpAnyIn (FW ro) 0 P .any ops Q' fuel listed a w
 |0,_,_,_,_,_,h=>⟨h.1,hQ _ _ h.2⟩
 |fuel+1,listed,a,w,hc,hw,h=>⟨fun h0=>hQ _ _ (h.1 h0),fun i hi=>by
   have h2:=h.2 i hi
   have hc':=hc.add hi
   have next:∀w',(fin i=true∨D w')→(D w'∨Tail L ops late (listed.setIfInBounds i true)):=fun w' hh=>hh.elim (fun hf=>.inr (hfin.tail hc hf hi)) .inl
   have keep:D w∨Tail L ops late (listed.setIfInBounds i true):=hw.imp id fun ht=>ht.set i
   unfold stepD at h2
   unfold wpOpIn
   split at h2
   ·exact h2.elim
   ·rename_i o ho
    simp only[ho]
    split at h2
    ·unfold louD at h2
     split
     ·rename_i hx
      simp only[hx,if_true]at h2
      exact wpIn_of_does h2.2 (Does.mono h2.1 fun v w' hv=>anyD_wp hfin hQ fuel _ _ _ hc' (next _ hv.1) hv.2)
     ·rename_i hx
      simp only[hx]at h2
      exact⟨fun _ _=>trivial,anyD_wp hfin hQ fuel _ _ _ hc' keep h2⟩
    ·obtain⟨⟨v,hy,hk⟩,hd⟩:=h2
     rcases hy with⟨hx,hv⟩|⟨hx,hv⟩
     ·simp only[hx,if_true]
      have hself:atD late D i w w:=hw.elim (fun hD=>atD_self hD) (fun ht=>by
       unfold atD; rw[if_pos (ht i o ho (mem_ready.1 hi).1).1])
      exact wpIn_of_does hd (does_val (hv w hself) (anyD_wp hfin hQ fuel _ _ _ hc' keep hk))
     ·simp only[hx,Bool.false_eq_true,if_false]
      subst hv
      exact⟨fun _ _=>trivial,anyD_wp hfin hQ fuel _ _ _ hc' keep hk⟩⟩
theorem YD_put {o x:Oper}{v u:Value}{a:Act}(hs:∀cs b,o.op≠.select cs b) (h:∀d,x.dst=some d→d∉o.looksAt ops):YD P ops D o v (a.put x.dst u)↔YD P ops D o v a:=by
 unfold YD
 rw[execOp_put o hs a x.dst u h,wanted_put o a x.dst u h]
theorem YD_uniq {o:Oper}{v u:Value}{a:Act}{w:World}(hw:D w) (h1:YD P ops D o v a) (h2:YD P ops D o u a):v=u:=by
 rcases h1 with⟨hx,h1⟩|⟨hx,rfl⟩<;>rcases h2 with⟨hy,h2⟩|⟨hy,rfl⟩
 ·have e1:=h1 w hw
  have e2:=h2 w hw
  rw[e1]at e2
  cases e2; rfl
 ·rw[hx]at hy; cases hy
 ·rw[hx]at hy; cases hy
 ·rfl
theorem louD_put {f:Bool}{o x:Oper}{K:Act→World→Prop}{u:Value}{a:Act}{w:World}(hs:∀cs b,o.op≠.select cs b) (h:∀d,x.dst=some d→d∉o.looksAt ops) (hne:∀d,x.dst=some d→o.dst≠some d):
  louD P ops D f o K (a.put x.dst u) w↔louD P ops D f o (fun a' w'=>K (a'.put x.dst u) w') a w:=by
 unfold louD
 rw[execOp_put o hs a x.dst u h,wanted_put o a x.dst u h]
 have hc:∀v,(a.put x.dst u).put o.dst v=(a.put o.dst v).put x.dst u:=fun v=>Act.put_comm a u v hne
 simp only[hc]
theorem first_quiet (hlt:Late L ops late){i:Nat}{oi:Oper}{v:Value}(hi:ops[i]?=some oi) (hL:L oi=false) (hd:notDefer oi.op=true) (hsel:∀(j:Nat) (o:Oper) cs b,ops[j]?=some o→o.op≠.select cs b):
  ∀(fuel:Nat) (listed:Array Bool) (a:Act) (w:World),
   (∀j oj,ops[j]?=some oj→j≠i→listed.getD j true=false→(∀e∈oj.after,Region.binds .any e=true→e.on≠i)→oi.apart ops oj=true)→
   i∈Region.ready .any ops listed→YD P ops (atD late D i w) oi v a→Closed ops listed→
   anyD P L ops fin late D Q fuel (listed.setIfInBounds i true) (a.put oi.dst v) w→anyD P L ops fin late D Q (fuel+1) listed a w:=by
 intro fuel
 induction fuel with
 |zero=>
  intro listed a w _ hr hy hc H
  refine⟨fun h=>(by rw[h]at hr; cases hr),fun j hj=>?_⟩
  by_cases hji:j=i
  ·subst hji; unfold stepD; simp only[hi,hL,Bool.false_eq_true,if_false]; exact⟨⟨v,hy,H⟩,hd⟩
  ·have:=ready_mono hj hji
   rw[H.1]at this
   cases this
 |succ fuel ih=>
  intro listed a w hfree hr hy hc H
  refine⟨fun h=>(by rw[h]at hr; cases hr),fun j hj=>?_⟩
  by_cases hji:j=i
  ·subst hji; unfold stepD; simp only[hi,hL,Bool.false_eq_true,if_false]; exact⟨⟨v,hy,H⟩,hd⟩
  ·have h1:=H.2 j (ready_mono hj hji)
   obtain⟨hjun,oj,hoj,hall⟩:=mem_ready.1 hj
   have hnot:∀e∈oj.after,Region.binds .any e=true→e.on≠i:=fun e he hb heq=>by
    have h1:=hall e he hb
    have h0:=(mem_ready.1 hr).1
    rw[heq]at h1
    rcases Nat.lt_or_ge i listed.size with h'|h'
    ·simp[h']at h0 h1; rw[h0]at h1; cases h1
    ·simp[Array.getElem?_eq_none h']at h1
   obtain⟨a1,a2,a3⟩:=Oper.apart_spec (hfree j oj hoj hji hjun hnot)
   have hfree':∀k ok,ops[k]?=some ok→k≠i→(listed.setIfInBounds j true).getD k true=false→
     (∀e∈ok.after,Region.binds .any e=true→e.on≠i)→oi.apart ops ok=true:=fun k ok hk hki hun hno=>by
    refine hfree k ok hk hki ?_ hno
    by_cases hjk:j=k
    ·subst hjk; exact hjun
    ·rw[getD_set_ne true hjk]at hun; exact hun
   have go:∀(u:Value) (w':World),YD P ops (atD late D i w') oi v a→anyD P L ops fin late D Q fuel ((listed.setIfInBounds i true).setIfInBounds j true) ((a.put oi.dst v).put oj.dst u) w'→
     anyD P L ops fin late D Q (fuel+1) (listed.setIfInBounds j true) (a.put oj.dst u) w':=fun u w' hy hK=>by
    refine ih (listed.setIfInBounds j true) (a.put oj.dst u) w' hfree' (ready_mono hr (Ne.symm hji)) ((YD_put (fun cs b=>hsel i oi cs b hi) a3).2 hy) (hc.add hj) ?_
    rw[Array.setIfInBounds_comm _ _ hji,←Act.put_comm a v u a2]
    exact hK
   unfold stepD at h1⊢
   simp only[hoj]at h1⊢
   split
   ·rename_i hl
    simp only[hl,if_true]at h1
    have hnl:late i=false:=by
     cases h:late i with
     |false=>rfl
     |true=>
      obtain⟨n,hn|hn⟩:=hlt i oi j oj h hi hoj hl
      ·exact absurd hr (reach_not_ready hc (unlisted_of_ready hj) hn)
      ·exact absurd hj (reach_not_ready hc (unlisted_of_ready hr) hn)
    have hya:∀w',YD P ops (atD late D i w') oi v a:=fun w'=>by
     have e:∀x,atD late D i x=D:=fun x=>by unfold atD; simp[hnl]
     rw[e]at hy⊢; exact hy
    have h1:=(louD_put (fun cs b=>hsel j oj cs b hoj) a1 a2).1 h1
    unfold louD at h1⊢
    split
    ·rename_i hx
     simp only[hx,if_true]at h1
     refine⟨Does.mono h1.1 fun u w' hu=>⟨hu.1,go u w' (hya w') ?_⟩,h1.2⟩
     rw[Act.put_comm a v u a2]; exact hu.2
    ·rename_i hx
     simp only[hx]at h1
     refine go undef w hy ?_
     rw[Act.put_comm a v undef a2]; exact h1
   ·rename_i hl
    simp only[hl]at h1
    obtain⟨⟨u,hu,hK⟩,hdj⟩:=h1
    exact⟨⟨u,(YD_put (fun cs b=>hsel j oj cs b hoj) a1).1 hu,go u w hy hK⟩,hdj⟩
theorem Does.exists {s:Sem Next}{w:World}{Φ:Value→World→Prop}(h:Does P s w Φ):∃v w',Φ v w':=by
 unfold Does at h
 split at h
 ·exact⟨_,_,h⟩
 ·exact⟨_,_,h⟩
 ·obtain⟨e,w',fr,⟨v,he,hv⟩,_⟩:=h []
  exact⟨v,w',hv⟩
 ·obtain⟨e,w',⟨v,he,hv⟩,_⟩:=h.2 default [] (room_wide _)
  exact⟨v,w',hv⟩
 ·obtain⟨v,w',hv,_⟩:=h default [] (room_wide _)
  exact⟨v,w',hv⟩
 ·exact h.elim
theorem first_loud (hfin:Fin2 L ops fin late) (hlt:Late L ops late){i:Nat}{oi:Oper}(hi:ops[i]?=some oi) (hL:L oi=true) (hsel:∀(j:Nat) (o:Oper) cs b,ops[j]?=some o→o.op≠.select cs b):
  ∀(fuel:Nat) (listed:Array Bool) (a:Act) (w:World),Closed ops listed→
   (∀j oj,ops[j]?=some oj→j≠i→listed.getD j true=false→L oj=true→∃n,reachB ops n j i=true)→
   (∀j oj,ops[j]?=some oj→j≠i→listed.getD j true=false→(∀e∈oj.after,Region.binds .any e=true→e.on≠i)→oi.apart ops oj=true)→
   i∈Region.ready .any ops listed→
   louD P ops D (fin i) oi (anyD P L ops fin late D Q fuel (listed.setIfInBounds i true)) a w→anyD P L ops fin late D Q (fuel+1) listed a w:=by
 intro fuel
 have here:∀(f:Nat) (listed:Array Bool) (a:Act) (w:World),louD P ops D (fin i) oi (anyD P L ops fin late D Q f (listed.setIfInBounds i true)) a w→
   stepD P L ops fin late D i (anyD P L ops fin late D Q f (listed.setIfInBounds i true)) a w:=fun f listed a w H=>by
  unfold stepD; simp only[hi,hL,if_true]; exact H
 induction fuel with
 |zero=>
  intro listed a w _ _ _ hr H
  refine⟨fun h=>(by rw[h]at hr; cases hr),fun j hj=>?_⟩
  by_cases hji:j=i
  ·subst hji; exact here _ _ _ _ H
  ·exfalso
   have hrj:=ready_mono hj hji
   unfold louD at H
   split at H
   ·obtain⟨v,w',_,h2⟩:=Does.exists H.1
    rw[h2.1]at hrj; cases hrj
   ·rw[H.1]at hrj; cases hrj
 |succ fuel ih=>
  intro listed a w hc hlo hfree hr H
  refine⟨fun h=>(by rw[h]at hr; cases hr),fun j hj=>?_⟩
  by_cases hji:j=i
  ·subst hji; exact here _ _ _ _ H
  ·have hrj:=ready_mono hj hji
   have hfi:fin i=false:=hfin.alone hc hr hj hji
   obtain⟨hjun,oj,hoj,hall⟩:=mem_ready.1 hj
   have hiun:listed.getD i false=false:=by
    have h0:=(mem_ready.1 hr).1
    rcases Nat.lt_or_ge i listed.size with h'|h'
    ·simp[h']at h0⊢; exact h0
    ·simp[Array.getElem?_eq_none h']
   have hLj:L oj=false:=by
    cases hl:L oj with
    |false=>rfl
    |true=>
     obtain⟨n,hn⟩:=hlo j oj hoj hji hjun hl
     exact absurd hj (reach_not_ready hc hiun hn)
   have hatD:∀x,atD late D j x=D:=fun x=>by
    unfold atD
    cases h:late j with
    |false=>simp
    |true=>
     obtain⟨n,hn|hn⟩:=hlt j oj i oi h hoj hi hL
     ·exact absurd hj (reach_not_ready hc hiun hn)
     ·exact absurd hr (reach_not_ready hc (unlisted_of_ready hj) hn)
   have hnot:∀e∈oj.after,Region.binds .any e=true→e.on≠i:=fun e he hb heq=>by
    have h1:=hall e he hb
    rw[heq,hiun]at h1; cases h1
   obtain⟨a1,a2,a3⟩:=Oper.apart_spec (hfree j oj hoj hji hjun hnot)
   have hfree':∀k ok,ops[k]?=some ok→k≠i→(listed.setIfInBounds j true).getD k true=false→
     (∀e∈ok.after,Region.binds .any e=true→e.on≠i)→oi.apart ops ok=true:=fun k ok hk hki hun hno=>by
    refine hfree k ok hk hki ?_ hno
    by_cases hjk:j=k
    ·subst hjk; exact hjun
    ·rw[getD_set_ne true hjk]at hun; exact hun
   have hlo':∀k ok,ops[k]?=some ok→k≠i→(listed.setIfInBounds j true).getD k true=false→L ok=true→∃n,reachB ops n k i=true:=fun k ok hk hki hun hl=>by
    refine hlo k ok hk hki ?_ hl
    by_cases hjk:j=k
    ·subst hjk; exact hjun
    ·rw[getD_set_ne true hjk]at hun; exact hun
   have take:∀(v:Value) (w':World),anyD P L ops fin late D Q (fuel+1) (listed.setIfInBounds i true) (a.put oi.dst v) w'→
     (∃u,YD P ops D oj u a∧anyD P L ops fin late D Q fuel ((listed.setIfInBounds j true).setIfInBounds i true) ((a.put oj.dst u).put oi.dst v) w')∧notDefer oj.op=true:=fun v w' h=>by
    have h2:=h.2 j hrj
    unfold stepD at h2
    simp only[hoj,hLj,Bool.false_eq_true,if_false,hatD]at h2
    obtain⟨⟨u,hu,hK⟩,hdj⟩:=h2
    refine⟨⟨u,(YD_put (fun cs b=>hsel j oj cs b hoj) a1).1 hu,?_⟩,hdj⟩
    rw[Array.setIfInBounds_comm _ _ hji,←Act.put_comm a v u a2]; exact hK
   have main:∃u,YD P ops D oj u a∧notDefer oj.op=true∧louD P ops D (fin i) oi (anyD P L ops fin late D Q fuel ((listed.setIfInBounds j true).setIfInBounds i true)) (a.put oj.dst u) w:=by
    have hne:∀d,oj.dst=some d→oi.dst≠some d:=fun d hd he=>a2 d he hd
    unfold louD at H
    split at H
    ·rename_i hx
     obtain⟨v0,w0,hD0,h0⟩:=Does.exists H.1
     obtain⟨⟨u,hu,_⟩,hdj⟩:=take v0 w0 h0
     refine⟨u,hu,hdj,(louD_put (fun cs b=>hsel i oi cs b hi) a3 hne).2 ?_⟩
     unfold louD
     simp only[hx,if_true]
     refine⟨Does.mono H.1 fun v w' ⟨hD',h'⟩=>⟨hD',?_⟩,H.2⟩
     obtain⟨⟨u',hu',hK'⟩,_⟩:=take v w' h'
     have:u'=u:=YD_uniq (hD'.resolve_left (by rw[hfi]; exact Bool.false_ne_true)) hu' hu
     subst this
     rw[←Act.put_comm a u' v hne]; exact hK'
    ·rename_i hx
     obtain⟨⟨u,hu,hK⟩,hdj⟩:=take undef w H
     refine⟨u,hu,hdj,(louD_put (fun cs b=>hsel i oi cs b hi) a3 hne).2 ?_⟩
     unfold louD
     simp only[hx]
     rw[←Act.put_comm a u undef hne]; exact hK
   obtain⟨u,hu,hdj,hl⟩:=main
   unfold stepD
   simp only[hoj,hLj,Bool.false_eq_true,if_false,hatD]
   exact⟨⟨u,hu,ih (listed.setIfInBounds j true) (a.put oj.dst u) w (hc.add hj) hlo' hfree' (ready_mono hr (Ne.symm hji)) hl⟩,hdj⟩
def lexS (P:Program) (L:Oper→Bool) (ops:Array Oper) (fin late:Nat→Bool) (D:World→Prop) (Q:Act→World→Prop):List Oper→Nat→Act→World→Prop
 |[],_,a,w=>Q a w
 |o::rest,k,a,w=>if L o then louD P ops D (fin k) o (lexS P L ops fin late D Q rest (k+1)) a w else (∃v,YD P ops (atD late D k w) o v a∧lexS P L ops fin late D Q rest (k+1) (a.put o.dst v) w)∧notDefer o.op=true
def bitOf:List Nat→Nat→Nat
 |[],_=>0
 |x::_,0=>x
 |_::xs,n+1=>bitOf xs n
def edgeBits (acc:List Nat):List Edge→Nat
 |[]=>0
 |e::es=>(if Region.binds .any e then 2 ^ e.on ||| bitOf acc e.on else 0) ||| edgeBits acc es
def clos:List Oper→List Nat→List Nat
 |[],acc=>acc
 |o::os,acc=>clos os (acc++[edgeBits acc o.after.toList])
theorem bitOf_eq:∀(l:List Nat) (n:Nat),bitOf l n=l.getD n 0
 |[],n=>by simp[bitOf]
 |_::_,0=>rfl
 |_::xs,n+1=>by simpa[bitOf] using bitOf_eq xs n
def GoodBits (ops:Array Oper) (acc:List Nat):Prop:=∀j k,(bitOf acc j).testBit k=true→∃n,reachB ops n j k=true
theorem edgeBits_reach {acc:List Nat}(hg:GoodBits ops acc){j:Nat}{o:Oper}(ho:ops[j]?=some o):∀(es:List Edge),(∀e∈es,e∈o.after)→∀k,(edgeBits acc es).testBit k=true→∃n,reachB ops n j k=true
 |[],_,k,h=>by simp[edgeBits]at h
 |e::es,hs,k,h=>by
  simp only[edgeBits,Nat.testBit_or,Bool.or_eq_true]at h
  rcases h with h|h
  ·split at h
   ·rename_i hb
    have mem:e∈o.after:=hs e List.mem_cons_self
    simp only[Nat.testBit_or,Bool.or_eq_true,Nat.testBit_two_pow,decide_eq_true_eq]at h
    rcases h with h|h
    ·exact⟨1,by
      simp only[reachB,ho]
      exact Array.any_eq_true'.2 ⟨e,mem,by simp[hb,h]⟩⟩
    ·obtain⟨n,hn⟩:=hg _ _ h
     exact⟨n+1,by
      simp only[reachB,ho]
      exact Array.any_eq_true'.2 ⟨e,mem,by simp[hb,hn]⟩⟩
   ·simp at h
  ·exact edgeBits_reach hg ho es (fun e he=>hs e (List.mem_cons_of_mem _ he)) k h
theorem clos_good:∀(l:List Oper) (acc:List Nat),(∀j,l[j]?=ops[acc.length+j]?)→GoodBits ops acc→GoodBits ops (clos l acc)
 |[],_,_,hg=>hg
 |o::os,acc,hl,hg=>by
  have ho:ops[acc.length]?=some o:=by simpa using(hl 0).symm
  refine clos_good os _ (fun j=>by have:=hl (j+1); simpa[Nat.add_assoc,Nat.add_comm 1 j] using this) ?_
  intro j k h
  rw[bitOf_eq]at h
  by_cases hj:j<acc.length
  ·have:(acc++[edgeBits acc o.after.toList]).getD j 0=acc.getD j 0:=by simp[List.getD,List.getElem?_append_left hj]
   rw[this,←bitOf_eq]at h
   exact hg j k h
  ·by_cases hj':j=acc.length
   ·subst hj'
    have:(acc++[edgeBits acc o.after.toList]).getD acc.length 0=edgeBits acc o.after.toList:=by simp[List.getD]
    rw[this]at h
    exact edgeBits_reach hg ho _ (fun e he=>by simpa using he) k h
   ·have:(acc++[edgeBits acc o.after.toList]).getD j 0=0:=by
     have:(acc++[edgeBits acc o.after.toList])[j]?=none:=by rw[List.getElem?_eq_none_iff]; simp; omega
     simp[List.getD,this]
    rw[this]at h; simp at h
def freeL (ops:Array Oper) (o:Oper) (k:Nat) (os:List Oper):Bool:=os.all fun oj=>oj.after.toList.any (fun e=>Region.binds .any e&&e.on==k)||o.apart ops oj
def loudL (L:Oper→Bool) (bits:List Nat) (k:Nat):List Oper→Nat→Bool
 |[],_=>true
 |oj::os,j=>(!L oj||(bitOf bits j).testBit k)&&loudL L bits k os (j+1)
def lexL (L:Oper→Bool) (ops:Array Oper) (bits:List Nat):List Oper→Nat→Bool
 |[],_=>true
 |o::os,k=>o.after.toList.all (fun e=>!Region.binds .any e||Nat.blt e.on k)&&freeL ops o k os&&(!L o||loudL L bits k os (k+1))&&lexL L ops bits os (k+1)
theorem loudL_spec {bits:List Nat}{k:Nat}:∀{os:List Oper}{j:Nat},loudL L bits k os j=true→∀n o,os[n]?=some o→L o=true→(bitOf bits (j+n)).testBit k=true
 |[],_,_,n,o,h,_=>by simp at h
 |x::xs,j,hB,n,o,h,hL=>by
  simp only[loudL,Bool.and_eq_true]at hB
  cases n with
  |zero=>simp only[List.getElem?_cons_zero,Option.some.injEq]at h; subst h; simpa[hL] using hB.1
  |succ n=>
   have:=loudL_spec hB.2 n o (by simpa using h) hL
   rwa [show j+1+n=j+(n+1) by omega]at this
def Prefix (ops:Array Oper) (k:Nat) (listed:Array Bool):Prop:=listed.size=ops.size∧∀j,j<ops.size→listed[j]?=some (decide (j<k))
theorem Prefix.getD {k:Nat}{listed:Array Bool}(h:Prefix ops k listed){j:Nat}(hj:j<ops.size) (d:Bool):listed.getD j d=decide (j<k):=by
 rw[Array.getD_eq_getD_getElem?,h.2 j hj]; rfl
theorem Prefix.next {k:Nat}{listed:Array Bool}(h:Prefix ops k listed):Prefix ops (k+1) (listed.setIfInBounds k true):=by
 refine⟨by simp[h.1],fun j hj=>?_⟩
 by_cases hjk:k=j
 ·subst hjk
  have:k<listed.size:=h.1▸hj
  simp[this]
 ·rw[Array.getElem?_setIfInBounds_ne hjk,h.2 j hj]
  congr 1
  simp only[decide_eq_decide]
  omega
theorem lexS_any (hfin:Fin2 L ops fin late) (hlt:Late L ops late){bits:List Nat}(hbits:GoodBits ops bits) (hs:Region.noSelect ops=true):∀(l:List Oper) (k:Nat) (listed:Array Bool) (a:Act) (w:World),(∀j,l[j]?=ops[k+j]?)→Prefix ops k listed→Closed ops listed→
  lexL L ops bits l k=true→(D w∨∀n o,l[n]?=some o→late (k+n)=true∧L o=false)→lexS P L ops fin late D Q l k a w→anyD P L ops fin late D Q l.length listed a w
 |[],k,listed,_,_,hl,hp,_,_,_,h=>by
  refine⟨?_,h⟩
  cases hr:Region.ready .any ops listed with
  |nil=>rfl
  |cons x xs=>
   exfalso
   have hx:x∈Region.ready .any ops listed:=by rw[hr]; exact List.mem_cons_self
   obtain⟨h0,o,ho,_⟩:=mem_ready.1 hx
   have hlt:x<ops.size:=(Array.getElem?_eq_some_iff.1 ho).1
   rw[hp.getD hlt]at h0
   have hk:k≤x:=by simpa using h0
   have:=hl (x-k)
   rw[show k+(x-k)=x by omega,ho]at this
   simp at this
 |o::l,k,listed,a,w,hl,hp,hc,hB,hw,h=>by
  have h0:ops[k]?=some o:=by simpa using(hl 0).symm
  have hkl:k<ops.size:=(Array.getElem?_eq_some_iff.1 h0).1
  simp only[lexL,Bool.and_eq_true]at hB
  obtain⟨⟨⟨hr,hf⟩,hlo⟩,hB'⟩:=hB
  have hr':k∈Region.ready .any ops listed:=by
   refine mem_ready.2 ⟨by rw[hp.getD hkl]; simp,o,h0,fun e he hb=>?_⟩
   have:=List.all_eq_true.1 hr e (by simpa using he)
   simp only[hb,Bool.not_true,Bool.false_or,Nat.blt_eq]at this
   rw[hp.getD (by omega)]
   simpa using this
  have hl':∀j,l[j]?=ops[k+1+j]?:=fun j=>by have:=hl (j+1); simpa[Nat.add_assoc,Nat.add_comm 1 j] using this
  have later:∀(j:Nat) oj,ops[j]?=some oj→j≠k→listed.getD j true=false→∃n,j=k+1+n∧l[n]?=some oj:=fun j oj hj hne hun=>by
   have hlt:j<ops.size:=(Array.getElem?_eq_some_iff.1 hj).1
   rw[hp.getD hlt]at hun
   have:k≤j:=by simpa using hun
   refine⟨j-(k+1),by omega,?_⟩
   rw[hl',show k+1+(j-(k+1))=j by omega]; exact hj
  have hfree:∀j oj,ops[j]?=some oj→j≠k→listed.getD j true=false→(∀e∈oj.after,Region.binds .any e=true→e.on≠k)→o.apart ops oj=true:=fun j oj hj hne hun hno=>by
   obtain⟨n,rfl,hn⟩:=later j oj hj hne hun
   have:=List.all_eq_true.1 hf oj (List.mem_of_getElem? hn)
   simp only[Bool.or_eq_true]at this
   rcases this with h1|h1
   ·obtain⟨e,he,hb⟩:=List.any_eq_true.1 h1
    simp only[Bool.and_eq_true,beq_iff_eq]at hb
    exact absurd hb.2 (hno e (by simpa using he) hb.1)
   ·exact h1
  simp only[lexS]at h
  split at h
  ·rename_i hL
   refine first_loud hfin hlt h0 hL (Region.noSelect_spec hs) l.length listed a w hc ?_ hfree hr' ?_
   ·intro j oj hj hne hun hLj
    obtain⟨n,rfl,hn⟩:=later j oj hj hne hun
    simp only[hL,Bool.not_true,Bool.false_or]at hlo
    exact hbits _ _ (loudL_spec hlo n oj hn hLj)
   ·have hw:D w:=hw.resolve_right fun ht=>by
     have:=(ht 0 o rfl).2
     rw[hL]at this; cases this
    exact louD_mono hw h fun a' w' hw' hh=>lexS_any hfin hlt hbits hs l (k+1) _ _ _ hl' hp.next (hc.add hr') hB' (hw'.symm.imp id (fun hf n x hx=>by
     have h4:=hl' n
     rw[hx]at h4
     obtain⟨h5,h6,_⟩:=(hfin k hf).2 (k+1+n) x (by omega) h4.symm
     exact⟨h5,h6⟩)) hh
  ·rename_i hL
   obtain⟨⟨v,hy,hK⟩,hd⟩:=h
   exact first_quiet hlt h0 (by simpa using hL) hd (Region.noSelect_spec hs) l.length listed a w hfree hr' hy hc
    (lexS_any hfin hlt hbits hs l (k+1) _ _ _ hl' hp.next (hc.add hr') hB' (hw.imp id fun ht n x hx=>by
     have:=ht (n+1) x hx
     rw[show k+1+n=k+(n+1) by omega]; exact this) hK)
end
def noSel:Op→Bool
 |.select ..=>false
 |_=>true
def lexOk (P:Program) (ops:Array Oper):Bool:=ops.toList.all (fun o=>noSel o.op)&&lexL (loud P) ops (clos ops.toList []) ops.toList 0
def lastAll (ops:List Oper):Bool:=bitOf (clos ops []) (ops.length-1)==2 ^ (ops.length-1)-1
def finB (ops:Array Oper) (k:Nat):Bool:=k+1==ops.size&&lastAll ops.toList
theorem finB_fin (ops:Array Oper):Fin ops (finB ops):=by
 intro i hi
 simp only[finB,lastAll,Bool.and_eq_true,beq_iff_eq,Array.length_toList]at hi
 refine⟨hi.1,fun j hj hji=>?_⟩
 have e:ops.size-1=i:=by omega
 have hg:GoodBits ops (clos ops.toList []):=clos_good ops.toList [] (by simp) (fun j k h=>by simp[bitOf]at h)
 refine hg i j ?_
 rw[e]at hi
 rw[hi.2,Nat.testBit_two_pow_sub_one]
 simp
 omega
def isConvO (o:Option Oper):Bool:=match o with
 |some o=>match o.op with|.convert ..=>true|_=>false
 |none=>false
def lateGo (P:Program) (cl:List Nat) (k:Nat) (c:Bool):List Oper→Nat→Bool→Bool
 |[],_,f=>f
 |o::os,j,f=>if loud P o then (if (bitOf cl k).testBit j then lateGo P cl k c os (j+1) true else c&&(bitOf cl j).testBit k&&lateGo P cl k c os (j+1) f) else lateGo P cl k c os (j+1) f
def lateB (P:Program) (ops:List Oper) (k:Nat):Bool:=lateGo P (clos ops []) k (isConvO ops[k]?) ops 0 false
theorem lateGo_spec {P:Program}{cl:List Nat}{k:Nat}{c:Bool}:∀(os:List Oper) (j:Nat) (f:Bool),lateGo P cl k c os j f=true→∀n o,os[n]?=some o→loud P o=true→(bitOf cl k).testBit (j+n)=true∨(bitOf cl (j+n)).testBit k=true
 |[],_,_,_,n,o,h,_=>by simp at h
 |x::xs,j,f,hB,n,o,h,hL=>by
  simp only[lateGo]at hB
  cases n with
  |zero=>
   simp only[List.getElem?_cons_zero,Option.some.injEq]at h; subst h
   rw[if_pos hL]at hB
   split at hB
   ·left; assumption
   ·simp only[Bool.and_eq_true]at hB
    exact .inr hB.1.2
  |succ n=>
   have h':xs[n]?=some o:=by simpa using h
   rw[show j+(n+1)=j+1+n by omega]
   split at hB
   ·split at hB
    ·exact lateGo_spec xs (j+1) true hB n o h' hL
    ·simp only[Bool.and_eq_true]at hB
     exact lateGo_spec xs (j+1) f hB.2 n o h' hL
   ·exact lateGo_spec xs (j+1) f hB n o h' hL
theorem lateB_late {P:Program}(ops:Array Oper):Late (loud P) ops (lateB P ops.toList):=by
 intro i oi j oj hl _ hj hL
 have hg:GoodBits ops (clos ops.toList []):=clos_good ops.toList [] (by simp) (fun j k h=>by simp[bitOf]at h)
 have:=lateGo_spec ops.toList 0 false hl j oj (by simpa using hj) hL
 rw[Nat.zero_add]at this
 rcases this with h|h
 ·obtain⟨n,hn⟩:=hg i j h
  exact⟨n,.inl hn⟩
 ·obtain⟨n,hn⟩:=hg j i h
  exact⟨n,.inr hn⟩
def cmpO (P:Program) (ops:List Oper) (o:Oper):Bool:=
 match o.op with
 |.binOp _ _ (.tmp x) (.tmp y) _=>ops.any (fun q=>q.dst==some x&&loud P q)&&ops.any (fun q=>q.dst==some y&&loud P q)
 |_=>false
def isTwo:List Oper→Bool
 |[]=>true
 |[o]=>match o.op with
  |.pick ..=>true
  |_=>false
 |_=>false
def tailOk (P:Program) (ops:List Oper) (n:Nat):List Oper→Nat→Bool
 |[],_=>true
 |o::os,k=>!loud P o&&lateB P ops k&&(bitOf (clos ops []) k).testBit n&&tailOk P ops n os (k+1)
def twoAt (P:Program) (ops:List Oper) (n:Nat):Bool:=
 (match ops[n+1]? with
  |some o=>cmpO P ops o
  |none=>false)&&isTwo (ops.drop (n+2))&&tailOk P ops n (ops.drop (n+1)) (n+1)&&bitOf (clos ops []) n==2 ^ n-1
def finB2 (P:Program) (ops:Array Oper) (k:Nat):Bool:=finB ops k||twoAt P ops.toList k
theorem tailOk_spec {P:Program}{ops:List Oper}{n:Nat}:∀{l:List Oper}{k:Nat},tailOk P ops n l k=true→∀m o,l[m]?=some o→loud P o=false∧lateB P ops (k+m)=true∧(bitOf (clos ops []) (k+m)).testBit n=true
 |[],_,_,m,o,h=>by simp at h
 |x::xs,k,hB,m,o,h=>by
  simp only[tailOk,Bool.and_eq_true,Bool.not_eq_true']at hB
  cases m with
  |zero=>
   simp only[List.getElem?_cons_zero,Option.some.injEq]at h
   subst h
   exact⟨hB.1.1.1,hB.1.1.2,hB.1.2⟩
  |succ m=>
   have:=tailOk_spec hB.2 m o (by simpa using h)
   rwa [show k+1+m=k+(m+1) by omega]at this
theorem finB2_fin {P:Program}(ops:Array Oper):Fin2 (loud P) ops (finB2 P ops) (lateB P ops.toList):=by
 intro i hi
 unfold finB2 at hi
 rw[Bool.or_eq_true]at hi
 rcases hi with hi|hi
 ·exact(finB_fin ops).two i hi
 ·have hg:GoodBits ops (clos ops.toList []):=clos_good ops.toList [] (by simp) (fun j k h=>by simp[bitOf]at h)
  unfold twoAt at hi
  simp only[Bool.and_eq_true,beq_iff_eq]at hi
  obtain⟨⟨_,h3⟩,h4⟩:=hi
  refine⟨fun j hj hs=>hg i j (by rw[h4,Nat.testBit_two_pow_sub_one]; simp; omega),fun j oj hj ho=>?_⟩
  have ho':(ops.toList.drop (i+1))[j-(i+1)]?=some oj:=by
   rw[List.getElem?_drop,show i+1+(j-(i+1))=j by omega]; simpa using ho
  obtain⟨h5,h6,h7⟩:=tailOk_spec h3 _ _ ho'
  rw[show i+1+(j-(i+1))=j by omega]at h6 h7
  exact⟨h6,h5,hg _ _ h7⟩
theorem wpIn_lex {P:Program}{ro:Option Nat}{id:Nat}{ops:Array Oper}{D:World→Prop}{Q:Exit→Act→World→Prop}{a:Act}{w:World}(hm:P.follows .mixedOrders=true) (hB:lexOk P ops=true)
  (hD:D { w with drawn:=w.drawn+1 }) (h:lexS P (loud P) ops (finB2 P ops) (lateB P ops.toList) D (fun a' w'=>Q .normal a' w') ops.toList 0 a { w with drawn:=w.drawn+1 }):(Code.region id ops true).wpIn (FW ro) 0 P Q a w:=by
 simp only[lexOk,Bool.and_eq_true]at hB
 have hc:Closed ops (Array.replicate ops.size false):=by
  intro j o _ hl
  exfalso
  by_cases hj:j<ops.size
  ·simp[Array.getD,hj]at hl
  ·simp[Array.getD,hj]at hl
 refine wpIn_region_any hm (anyD_wp (D:=D) (L:=loud P) (fin:=finB2 P ops) (late:=lateB P ops.toList) (Q:=fun a' w'=>Q .normal a' w') (finB2_fin ops) (fun _ _ h=>h) _ _ _ _ hc (.inl hD) ?_)
 have hns:Region.noSelect ops=true:=by
  unfold Region.noSelect
  refine Array.all_eq_true_iff_forall_mem.2 fun o ho=>?_
  have:=List.all_eq_true.1 hB.1 o (by simpa using ho)
  revert this
  cases o.op<;>simp[noSel]
 have hp:Prefix ops 0 (Array.replicate ops.size false):=⟨by simp,fun j hj=>by simp[hj]⟩
 have:=lexS_any (P:=P) (L:=loud P) (fin:=finB2 P ops) (late:=lateB P ops.toList) (D:=D) (Q:=fun a' w'=>Q .normal a' w') (finB2_fin ops) (lateB_late ops) (clos_good ops.toList [] (by simp) (fun j k h=>by simp[bitOf]at h)) hns ops.toList 0 (Array.replicate ops.size false) a { w with drawn:=w.drawn+1 } (by simp) hp hc hB.2 (.inl hD) h
 simpa using this
section
variable {P:Program}{L:Oper→Bool}{ops:Array Oper}{fin late:Nat→Bool}{D:World→Prop}{Q:Act→World→Prop}
theorem first_louds (hfin:Fin ops fin) (hlt:Late L ops late){I:List Nat}{i0:Nat}(hi0:i0∈I) (hI:∀i∈I,∃oi,ops[i]?=some oi∧L oi=true) (hsel:∀(j:Nat) (o:Oper) cs b,ops[j]?=some o→o.op≠.select cs b):
  ∀(fuel:Nat) (listed:Array Bool) (a:Act) (w:World),Closed ops listed→
   (∀j oj,ops[j]?=some oj→j∉I→listed.getD j true=false→L oj=true→∃i∈I,∃n,reachB ops n j i=true)→
   (∀i∈I,∀oi,ops[i]?=some oi→∀j oj,ops[j]?=some oj→j∉I→listed.getD j true=false→(∀e∈oj.after,Region.binds .any e=true→e.on≠i)→oi.apart ops oj=true)→
   (∀i∈I,i∈Region.ready .any ops listed)→D w→
   (∀i∈I,∀oi,ops[i]?=some oi→louD P ops D (fin i) oi (anyD P L ops fin late D Q fuel (listed.setIfInBounds i true)) a w)→anyD P L ops fin late D Q (fuel+1) listed a w:=by
 intro fuel
 have here:∀(f:Nat) (listed:Array Bool) (a:Act) (w:World) (i:Nat),i∈I→(∀i∈I,∀oi,ops[i]?=some oi→louD P ops D (fin i) oi (anyD P L ops fin late D Q f (listed.setIfInBounds i true)) a w)→
   stepD P L ops fin late D i (anyD P L ops fin late D Q f (listed.setIfInBounds i true)) a w:=fun f listed a w i hi H=>by
  obtain⟨oi,ho,hL⟩:=hI i hi
  unfold stepD; simp only[ho,hL,if_true]; exact H i hi oi ho
 obtain⟨oz,hoz,hLz⟩:=hI i0 hi0
 induction fuel with
 |zero=>
  intro listed a w _ _ _ hr hw H
  refine⟨fun h=>(by have:=hr i0 hi0; rw[h]at this; cases this),fun j hj=>?_⟩
  by_cases hji:j∈I
  ·exact here _ _ _ _ j hji H
  ·exfalso
   have hne:j≠i0:=fun e=>hji (e▸hi0)
   have hrj:=ready_mono hj hne
   have H0:=H i0 hi0 oz hoz
   unfold louD at H0
   split at H0
   ·obtain⟨v,w',_,h2⟩:=Does.exists H0.1
    rw[h2.1]at hrj; cases hrj
   ·rw[H0.1]at hrj; cases hrj
 |succ fuel ih=>
  intro listed a w hc hlo hfree hr hw H
  refine⟨fun h=>(by have:=hr i0 hi0; rw[h]at this; cases this),fun j hj=>?_⟩
  by_cases hji:j∈I
  ·exact here _ _ _ _ j hji H
  ·have hneI:∀i∈I,j≠i:=fun i hi e=>hji (e▸hi)
   obtain⟨hjun,oj,hoj,hall⟩:=mem_ready.1 hj
   have hiun:∀i∈I,listed.getD i false=false:=fun i hi=>unlisted_of_ready (hr i hi)
   have hLj:L oj=false:=by
    cases hl:L oj with
    |false=>rfl
    |true=>
     obtain⟨i,hi,n,hn⟩:=hlo j oj hoj hji hjun hl
     exact absurd hj (reach_not_ready hc (hiun i hi) hn)
   have hatD:∀x,atD late D j x=D:=fun x=>by
    unfold atD
    cases h:late j with
    |false=>simp
    |true=>
     obtain⟨n,hn|hn⟩:=hlt j oj i0 oz h hoj hoz hLz
     ·exact absurd hj (reach_not_ready hc (hiun i0 hi0) hn)
     ·exact absurd (hr i0 hi0) (reach_not_ready hc (unlisted_of_ready hj) hn)
   have hnot:∀i∈I,∀e∈oj.after,Region.binds .any e=true→e.on≠i:=fun i hi e he hb heq=>by
    have h1:=hall e he hb
    rw[heq,hiun i hi]at h1; cases h1
   have hfree':∀i∈I,∀oi,ops[i]?=some oi→∀k ok,ops[k]?=some ok→k∉I→(listed.setIfInBounds j true).getD k true=false→
     (∀e∈ok.after,Region.binds .any e=true→e.on≠i)→oi.apart ops ok=true:=fun i hi oi ho k ok hk hki hun hno=>by
    refine hfree i hi oi ho k ok hk hki ?_ hno
    by_cases hjk:j=k
    ·subst hjk; exact hjun
    ·rw[getD_set_ne true hjk]at hun; exact hun
   have hlo':∀k ok,ops[k]?=some ok→k∉I→(listed.setIfInBounds j true).getD k true=false→L ok=true→∃i∈I,∃n,reachB ops n k i=true:=fun k ok hk hki hun hl=>by
    refine hlo k ok hk hki ?_ hl
    by_cases hjk:j=k
    ·subst hjk; exact hjun
    ·rw[getD_set_ne true hjk]at hun; exact hun
   have take:∀i∈I,∀oi,ops[i]?=some oi→∀(v:Value) (w':World),anyD P L ops fin late D Q (fuel+1) (listed.setIfInBounds i true) (a.put oi.dst v) w'→
     (∃u,YD P ops D oj u a∧anyD P L ops fin late D Q fuel ((listed.setIfInBounds j true).setIfInBounds i true) ((a.put oj.dst u).put oi.dst v) w')∧notDefer oj.op=true:=fun i hi oi ho v w' h=>by
    obtain⟨a1,a2,a3⟩:=Oper.apart_spec (hfree i hi oi ho j oj hoj hji hjun (hnot i hi))
    have h2:=h.2 j (ready_mono hj (hneI i hi))
    unfold stepD at h2
    simp only[hoj,hLj,Bool.false_eq_true,if_false,hatD]at h2
    obtain⟨⟨u,hu,hK⟩,hdj⟩:=h2
    refine⟨⟨u,(YD_put (fun cs b=>hsel j oj cs b hoj) a1).1 hu,?_⟩,hdj⟩
    rw[Array.setIfInBounds_comm _ _ (hneI i hi),←Act.put_comm a v u a2]; exact hK
   have one:∃u,YD P ops D oj u a∧notDefer oj.op=true:=by
    have H0:=H i0 hi0 oz hoz
    unfold louD at H0
    split at H0
    ·obtain⟨v0,w0,hD0,h0⟩:=Does.exists H0.1
     obtain⟨⟨u,hu,_⟩,hdj⟩:=take i0 hi0 oz hoz v0 w0 h0
     exact⟨u,hu,hdj⟩
    ·obtain⟨⟨u,hu,_⟩,hdj⟩:=take i0 hi0 oz hoz undef w H0
     exact⟨u,hu,hdj⟩
   obtain⟨u,hu,hdj⟩:=one
   have main:∀i∈I,∀oi,ops[i]?=some oi→louD P ops D (fin i) oi (anyD P L ops fin late D Q fuel ((listed.setIfInBounds j true).setIfInBounds i true)) (a.put oj.dst u) w:=fun i hi oi ho=>by
    obtain⟨a1,a2,a3⟩:=Oper.apart_spec (hfree i hi oi ho j oj hoj hji hjun (hnot i hi))
    have hne:∀d,oj.dst=some d→oi.dst≠some d:=fun d hd he=>a2 d he hd
    have hfi:fin i=false:=hfin.alone hc (hr i hi) hj (hneI i hi)
    have Hi:=H i hi oi ho
    unfold louD at Hi
    refine(louD_put (fun cs b=>hsel i oi cs b ho) a3 hne).2 ?_
    split at Hi
    ·rename_i hx
     unfold louD
     simp only[hx,if_true]
     refine⟨Does.mono Hi.1 fun v w' ⟨hD',h'⟩=>⟨hD',?_⟩,Hi.2⟩
     obtain⟨⟨u',hu',hK'⟩,_⟩:=take i hi oi ho v w' h'
     have:u'=u:=YD_uniq (hD'.resolve_left (by rw[hfi]; exact Bool.false_ne_true)) hu' hu
     subst this
     rw[←Act.put_comm a u' v hne]; exact hK'
    ·rename_i hx
     obtain⟨⟨u',hu',hK⟩,_⟩:=take i hi oi ho undef w Hi
     have:u'=u:=YD_uniq hw hu' hu
     subst this
     unfold louD
     simp only[hx]
     rw[←Act.put_comm a u' undef hne]; exact hK
   unfold stepD
   simp only[hoj,hLj,Bool.false_eq_true,if_false,hatD]
   exact⟨⟨u,hu,ih (listed.setIfInBounds j true) (a.put oj.dst u) w (hc.add hj) hlo' hfree' (fun i hi=>ready_mono (hr i hi) (Ne.symm (hneI i hi))) hw main⟩,hdj⟩
def isQ (L:Oper→Bool) (ops:Array Oper) (i:Nat):Bool:=match ops[i]? with|some o=>!L o|none=>false
def allS:List Nat→(Nat→Prop)→Prop
 |[],_=>True
 |[i],f=>f i
 |i::j::is,f=>f i∧allS (j::is) f
theorem allS_mem:∀{l:List Nat}{f:Nat→Prop},allS l f→∀i∈l,f i
 |[],_,_,i,hi=>by cases hi
 |[x],f,h,i,hi=>by
  obtain rfl:i=x:=by simpa using hi
  exact h
 |x::y::l,f,h,i,hi=>by
  rcases List.mem_cons.1 hi with rfl|hi
  ·exact h.1
  ·exact allS_mem h.2 i hi
def anyS (P:Program) (L:Oper→Bool) (ops:Array Oper) (fin late:Nat→Bool) (D:World→Prop) (Q:Act→World→Prop):Nat→Array Bool→Act→World→Prop
 |0,listed,a,w=>if (Region.ready .any ops listed).isEmpty then Q a w else False
 |fuel+1,listed,a,w=>match Region.ready .any ops listed with
  |[]=>Q a w
  |r=>match r.find? (isQ L ops) with
   |some i=>stepD P L ops fin late D i (anyS P L ops fin late D Q fuel (listed.setIfInBounds i true)) a w
   |none=>allS r fun i=>stepD P L ops fin late D i (anyS P L ops fin late D Q fuel (listed.setIfInBounds i true)) a w
def Back (ops:Array Oper):Prop:=∀(j:Nat) (o:Oper),ops[j]?=some o→∀e∈o.after,Region.binds .any e=true→e.on<j
theorem exists_ready (hb:Back ops){listed:Array Bool}(hs:listed.size=ops.size):∀(m j:Nat) (oj:Oper),j≤m→ops[j]?=some oj→listed.getD j true=false→j∈Region.ready .any ops listed∨∃i∈Region.ready .any ops listed,∃n,reachB ops n j i=true:=by
 intro m
 induction m with
 |zero=>
  intro j oj hj ho hun
  refine .inl (mem_ready.2 ⟨hun,oj,ho,fun e he hbi=>?_⟩)
  have:=hb j oj ho e he hbi
  omega
 |succ m ih=>
  intro j oj hj ho hun
  by_cases hall:∀e∈oj.after,Region.binds .any e=true→listed.getD e.on false=true
  ·exact .inl (mem_ready.2 ⟨hun,oj,ho,hall⟩)
  ·obtain⟨e,he,hbi,hl⟩:∃e,e∈oj.after∧Region.binds .any e=true∧listed.getD e.on false≠true:=by
    refine Classical.byContradiction fun hn=>hall fun e he hbi=>Classical.byContradiction fun hl=>hn ⟨e,he,hbi,hl⟩
   have hlt:=hb j oj ho e he hbi
   have hjs:j<ops.size:=(Array.getElem?_eq_some_iff.1 ho).1
   have hes:e.on<listed.size:=by omega
   have hun':listed.getD e.on true=false:=by
    simp[hes]at hl⊢
    exact hl
   have ho':ops[e.on]?=some (ops[e.on]'(by omega)):=by simp
   have r1:∀k,(e.on=k∨∃n,reachB ops n e.on k=true)→∃n,reachB ops n j k=true:=fun k hk=>by
    rcases hk with hk|⟨n,hn⟩
    ·exact⟨1,by simp only[reachB,ho]; exact Array.any_eq_true'.2 ⟨e,he,by simp[hbi,hk]⟩⟩
    ·exact⟨n+1,by simp only[reachB,ho]; exact Array.any_eq_true'.2 ⟨e,he,by simp[hbi,hn]⟩⟩
   rcases ih e.on _ (by omega) ho' hun' with h|⟨i,hi,n,hn⟩
   ·exact .inr ⟨e.on,h,r1 _ (.inl rfl)⟩
   ·exact .inr ⟨i,hi,r1 _ (.inr ⟨n,hn⟩)⟩
def Apart (ops:Array Oper):Prop:=∀(i j:Nat) (oi oj:Oper),ops[i]?=some oi→ops[j]?=some oj→i≠j→(∃n,reachB ops n i j=true)∨(∃e∈oj.after,Region.binds .any e=true∧e.on=i)∨oi.apart ops oj=true
theorem anyS_any (hfin:Fin ops fin) (hlt:Late L ops late) (hb:Back ops) (hap:Apart ops) (hsel:∀(j:Nat) (o:Oper) cs b,ops[j]?=some o→o.op≠.select cs b):
  ∀(fuel:Nat) (listed:Array Bool) (a:Act) (w:World),listed.size=ops.size→Closed ops listed→(Region.ready .any ops listed=[]∨D w)→anyS P L ops fin late D Q fuel listed a w→anyD P L ops fin late D Q fuel listed a w:=by
 intro fuel
 induction fuel with
 |zero=>
  intro listed a w hs hc hw h
  unfold anyS at h
  split at h
  ·rename_i he
   exact⟨List.isEmpty_iff.1 he,h⟩
  ·exact h.elim
 |succ fuel ih=>
  intro listed a w hs hc hw h
  have free:∀i oi,ops[i]?=some oi→i∈Region.ready .any ops listed→∀j oj,ops[j]?=some oj→j≠i→listed.getD j true=false→(∀e∈oj.after,Region.binds .any e=true→e.on≠i)→oi.apart ops oj=true:=by
   intro i oi ho hr j oj hoj hne hun hno
   rcases hap i j oi oj ho hoj (Ne.symm hne) with⟨n,hn⟩|⟨e,he,hbi,heq⟩|h
   ·have hjs:j<listed.size:=by rw[hs]; exact(Array.getElem?_eq_some_iff.1 hoj).1
    have hun':listed.getD j false=false:=by simp[hjs]at hun⊢; exact hun
    exact absurd hr (reach_not_ready hc hun' hn)
   ·exact absurd heq (hno e he hbi)
   ·exact h
  unfold anyS at h
  split at h
  ·rename_i h0
   exact⟨fun _=>h,fun i hi=>by rw[h0]at hi; cases hi⟩
  ·rename_i r h0
   have hw:D w:=hw.resolve_left h0
   split at h
   ·rename_i i hf
    have hq:isQ L ops i=true:=List.find?_some hf
    have hi:i∈Region.ready .any ops listed:=List.mem_of_find?_eq_some hf
    unfold isQ at hq
    split at hq
    ·rename_i oi ho
     have hL:L oi=false:=by simpa using hq
     unfold stepD at h
     simp only[ho,hL,Bool.false_eq_true,if_false]at h
     obtain⟨⟨v,hy,hK⟩,hd⟩:=h
     refine first_quiet hlt ho hL hd hsel fuel listed a w (free i oi ho hi) hi hy hc (ih _ _ _ (by simpa using hs) (hc.add hi) (.inr hw) hK)
    ·cases hq
   ·rename_i hf
    cases hr:Region.ready .any ops listed with
    |nil=>exact absurd hr h0
    |cons i0 rest=>
     have hi0:i0∈Region.ready .any ops listed:=by rw[hr]; exact List.mem_cons_self
     refine first_louds hfin hlt (I:=Region.ready .any ops listed) hi0 (fun i hi=>?_) hsel fuel listed a w hc ?_ ?_ (fun i hi=>hi) hw ?_
     ·obtain⟨_,oi,ho,_⟩:=mem_ready.1 hi
      refine⟨oi,ho,?_⟩
      have:=List.find?_eq_none.1 hf i hi
      unfold isQ at this
      simpa[ho] using this
     ·intro j oj hoj hji hun _
      rcases exists_ready hb hs j j oj (Nat.le_refl _) hoj hun with h1|h1
      ·exact absurd h1 hji
      ·exact h1
     ·intro i hi oi ho j oj hoj hji hun hno
      exact free i oi ho hi j oj hoj (fun e=>hji (e▸hi)) hun hno
     ·intro i hi oi ho
      have hst:=allS_mem h i hi
      have hL:L oi=true:=by
       have:=List.find?_eq_none.1 hf i hi
       unfold isQ at this
       simpa[ho] using this
      unfold stepD at hst
      simp only[ho,hL,if_true]at hst
      refine louD_mono hw hst fun a' w' hw' hK=>ih _ _ _ (by simpa using hs) (hc.add hi) ?_ hK
      exact hw'.imp (fun hf=>hfin.done hc hf hi) id
end
def backL:List Oper→Nat→Bool
 |[],_=>true
 |o::os,k=>o.after.toList.all (fun e=>!Region.binds .any e||Nat.blt e.on k)&&backL os (k+1)
def apartRow (ops:Array Oper) (bits i:Nat) (oi:Oper):List Oper→Nat→Bool
 |[],_=>true
 |oj::os,j=>(Nat.beq i j||bits.testBit j||oj.after.toList.any (fun e=>Region.binds .any e&&e.on==i)||oi.apart ops oj)&&apartRow ops bits i oi os (j+1)
def apartAll (ops:Array Oper) (all:List Oper) (bits:List Nat):List Oper→Nat→Bool
 |[],_=>true
 |o::os,i=>apartRow ops (bitOf bits i) i o all 0&&apartAll ops all bits os (i+1)
def anyOk (ops:Array Oper):Bool:=ops.toList.all (fun o=>noSel o.op)&&backL ops.toList 0&&apartAll ops ops.toList (clos ops.toList []) ops.toList 0
theorem backL_spec:∀{l:List Oper}{k:Nat},backL l k=true→∀n o,l[n]?=some o→∀e∈o.after,Region.binds .any e=true→e.on<k+n
 |[],_,_,n,o,h=>by simp at h
 |x::xs,k,hB,n,o,h=>by
  simp only[backL,Bool.and_eq_true]at hB
  cases n with
  |zero=>
   simp only[List.getElem?_cons_zero,Option.some.injEq]at h
   subst h
   intro e he hb
   have:=List.all_eq_true.1 hB.1 e (by simpa using he)
   simp only[hb,Bool.not_true,Bool.false_or,Nat.blt_eq]at this
   omega
  |succ n=>
   intro e he hb
   have:=backL_spec hB.2 n o (by simpa using h) e he hb
   omega
theorem apartRow_spec {ops:Array Oper}{bits i:Nat}{oi:Oper}:∀{l:List Oper}{j:Nat},apartRow ops bits i oi l j=true→∀n oj,l[n]?=some oj→i≠j+n→bits.testBit (j+n)=true∨(∃e∈oj.after,Region.binds .any e=true∧e.on=i)∨oi.apart ops oj=true
 |[],_,_,n,o,h=>by simp at h
 |x::xs,j,hB,n,oj,h=>by
  simp only[apartRow,Bool.and_eq_true]at hB
  cases n with
  |zero=>
   simp only[List.getElem?_cons_zero,Option.some.injEq]at h
   subst h
   intro hne
   have h1:=hB.1
   simp only[Bool.or_eq_true,Nat.beq_eq]at h1
   rcases h1 with((h1|h1)|h1)|h1
   ·exact absurd h1 (by simpa using hne)
   ·exact .inl (by simpa using h1)
   ·obtain⟨e,he,hb⟩:=List.any_eq_true.1 h1
    simp only[Bool.and_eq_true,beq_iff_eq]at hb
    exact .inr (.inl ⟨e,by simpa using he,hb⟩)
   ·exact .inr (.inr h1)
  |succ n=>
   intro hne
   have:=apartRow_spec hB.2 n oj (by simpa using h) (by omega)
   rwa [show j+1+n=j+(n+1) by omega]at this
theorem apartAll_spec {ops:Array Oper}{all:List Oper}{bits:List Nat}:∀{l:List Oper}{i:Nat},apartAll ops all bits l i=true→∀n o,l[n]?=some o→apartRow ops (bitOf bits (i+n)) (i+n) o all 0=true
 |[],_,_,n,o,h=>by simp at h
 |x::xs,i,hB,n,o,h=>by
  simp only[apartAll,Bool.and_eq_true]at hB
  cases n with
  |zero=>
   simp only[List.getElem?_cons_zero,Option.some.injEq]at h
   subst h; exact hB.1
  |succ n=>
   have:=apartAll_spec hB.2 n o (by simpa using h)
   rwa [show i+1+n=i+(n+1) by omega]at this
theorem wpIn_any2 {P:Program}{ro:Option Nat}{id:Nat}{ops:Array Oper}{D:World→Prop}{Q:Exit→Act→World→Prop}{a:Act}{w:World}(hm:P.follows .mixedOrders=true) (hB:anyOk ops=true)
  (hD:D { w with drawn:=w.drawn+1 }) (h:anyS P (loud P) ops (finB ops) (lateB P ops.toList) D (fun a' w'=>Q .normal a' w') ops.size (Array.replicate ops.size false) a { w with drawn:=w.drawn+1 }):(Code.region id ops true).wpIn (FW ro) 0 P Q a w:=by
 simp only[anyOk,Bool.and_eq_true]at hB
 have hc:Closed ops (Array.replicate ops.size false):=by
  intro j o _ hl
  exfalso
  by_cases hj:j<ops.size
  ·simp[Array.getD,hj]at hl
  ·simp[Array.getD,hj]at hl
 have hns:Region.noSelect ops=true:=by
  unfold Region.noSelect
  refine Array.all_eq_true_iff_forall_mem.2 fun o ho=>?_
  have:=List.all_eq_true.1 hB.1.1 o (by simpa using ho)
  revert this
  cases o.op<;>simp[noSel]
 have hg:GoodBits ops (clos ops.toList []):=clos_good ops.toList [] (by simp) (fun j k h=>by simp[bitOf]at h)
 refine wpIn_region_any hm (anyD_wp (D:=D) (L:=loud P) (fin:=finB ops) (late:=lateB P ops.toList) (Q:=fun a' w'=>Q .normal a' w') (finB_fin ops).two (fun _ _ h=>h) _ _ _ _ hc (.inl hD) ?_)
 refine anyS_any (finB_fin ops) (lateB_late ops) (fun j o ho e he hb=>?_) (fun i j oi oj hoi hoj hne=>?_) (Region.noSelect_spec hns) _ _ _ _ (by simp) hc (.inr hD) h
 ·have:=backL_spec hB.1.2 j o (by simpa using ho) e he hb
  omega
 ·have h1:=apartAll_spec hB.2 i oi (by simpa using hoi)
  rw[Nat.zero_add]at h1
  rcases apartRow_spec h1 j oj (by simpa using hoj) (by omega) with h2|h2|h2
  ·rw[Nat.zero_add]at h2
   exact .inl (hg i j h2)
  ·exact .inr (.inl h2)
  ·exact .inr (.inr h2)
inductive Plan where
 |o
 |s (p q:Plan)
 |j (live:List (Nat×VK)) (p q:Plan)
 |c (p q:Plan)
 |b (p:Plan)
 |bj (live:List (Nat×VK)) (p:Plan)
 |l (live:List (Nat×VK)) (p:Plan)
 |rf (live:List (Nat×VK)) (p:Plan)
def opAt:List Oper→Nat→Option Oper
 |[],_=>none
 |o::_,0=>some o
 |_::os,n+1=>opAt os n
def guarded (ops:List Oper) (o:Oper) (e:Env) (exec skip:Env→Prop):Prop:=
 match o.guard with
 |none=>exec e
 |some (j,want)=>match (opAt ops j).bind (·.dst) with
  |none=>False
  |some d=>match get e d with
   |.t=>if want then exec e else skip e
   |.f=>if want then skip e else exec e
   |.v (.tuple _)=>skip e
   |.v (.bool b)=>(b=true→if want then exec (set e d .t) else skip (set e d .t))∧(b=false→if want then skip (set e d .f) else exec (set e d .f))
   |_=>False
def entrySrc (ops:List Oper) (o:Oper):Bool:=
 match o.op with
 |.extract (.tmp d) _=>ops.any fun q=>q.dst==some d&&(match q.op with|.entry _=>true|_=>false)
 |_=>false
def denEx (P:Program) (o:Oper) (e:Env) (K:SV→World→Prop) (w:World):Prop:=
 match o.op with
 |.extract x i=>wv (ev e x) fun v=>exV (vk P o.type) fun u=>pureRun P (Instr.extract v i)=some u∧K (.v u) w
 |_=>False
def denOps (P:Program) (ops:List Oper) (K:Env→World→Prop):List Oper→Env→World→Prop
 |[],e,w=>K e w
 |o::rest,e,w=>guarded ops o e (fun e=>if entrySrc ops o then denEx P o e (fun s w'=>denOps P ops K rest (put e o.dst s) w') w else denOp P o e (fun s w'=>denOps P ops K rest (put e o.dst s) w') w) (fun e=>denOps P ops K rest (put e o.dst (.v undef)) w)
def denLex (P:Program) (ops:List Oper) (full:Bool) (two:Nat→Bool) (D:World→Prop) (K:Env→World→Prop):List Oper→Nat→Env→World→Prop
 |[],_,e,w=>K e w
 |o::rest,k,e,w=>guarded ops o e
   (fun e=>if loud P o then denOp P o e (fun s w'=>if full&&rest.isEmpty||two k then denLex P ops full two D K rest (k+1) (put e o.dst s) w' else D w'∧denLex P ops full two D K rest (k+1) (put e o.dst s) w') w
    else denQ P (atD (lateB P ops) D k w) o e (fun s=>denLex P ops full two D K rest (k+1) (put e o.dst s) w))
   (fun e=>denLex P ops full two D K rest (k+1) (put e o.dst (.v undef)) w)
def denOne (P:Program) (ops:Array Oper) (D:World→Prop) (i:Nat) (rest:Env→World→Prop) (e:Env) (w:World):Prop:=
 match opAt ops.toList i with
 |none=>False
 |some o=>guarded ops.toList o e
   (fun e=>if loud P o then denOp P o e (fun s w'=>if finB ops i then rest (put e o.dst s) w' else D w'∧rest (put e o.dst s) w') w
    else denQ P (atD (lateB P ops.toList) D i w) o e (fun s=>rest (put e o.dst s) w))
   (fun e=>rest (put e o.dst (.v undef)) w)
def denAny (P:Program) (ops:Array Oper) (D:World→Prop) (K:Env→World→Prop):Nat→Array Bool→Env→World→Prop
 |0,listed,e,w=>if (Region.ready .any ops listed).isEmpty then K e w else False
 |fuel+1,listed,e,w=>match Region.ready .any ops listed with
  |[]=>K e w
  |r=>match r.find? (isQ (loud P) ops) with
   |some i=>denOne P ops D i (denAny P ops D K fuel (listed.setIfInBounds i true)) e w
   |none=>allS r fun i=>denOne P ops D i (denAny P ops D K fuel (listed.setIfInBounds i true)) e w
def mods:Code→List Nat
 |.region _ ops _=>ops.toList.filterMap (·.dst)
 |.seq a b=>mods a++mods b
 |.cond _ a b=>mods a++mods b
 |.block _ c=>mods c
 |.loop c=>mods c
 |.scope c=>mods c
 |_=>[]
def kill (e:Env):List Nat→Env
 |[]=>e
 |m::ms=>kill (set e m .dead) ms
def fill (e:Env):List (Nat×VK)→List Value→Env
 |(i,_)::ls,v::vs=>fill (set e i (.v v)) ls vs
 |_,_=>e
def lives (e:Env):List (Nat×VK)→(List Value→Prop)→Prop
 |[],k=>k []
 |(i,_)::ls,k=>wv (get e i) fun v=>lives e ls fun vs=>k (v::vs)
def Join (rest:List Value→World→Prop) (body:(List Value→World→Prop)→Prop):Prop:=body rest
theorem Join.intro {rest:List Value→World→Prop}{body:(List Value→World→Prop)→Prop}(h:∀J:List Value→World→Prop,(∀vs w,rest vs w→J vs w)→body J):Join rest body:=h rest fun _ _ h=>h
def LoopP (ini:(List Value→World→Prop)→Prop) (round:(List Value→World→Prop)→List Value→World→Prop):Prop:=
 ∃(I:List Value→World→Prop) (μ:List Value→World→Nat),ini I∧∀vs w,I vs w→round (fun vs' w'=>I vs' w'∧μ vs' w'<μ vs w) vs w
def livesM (m:Nat) (e:Env) (l:List (Nat×VK)) (k:List Value→Prop):Prop:=if e.ms.length==m then lives e l k else False
def mk (d:Nat):Deferred:={ target:=.collected d,args:=#[] }
def outs:Code→List Nat
 |.seq a b=>outs a++outs b
 |.cond _ a b=>outs a++outs b
 |.block i c=>(outs c).filter (· != i)
 |.loop c=>outs c
 |.scope c=>outs c
 |.exit i=>[i]
 |_=>[]
def orX:List (Nat×(Nat→World→Prop))→(Nat→(Nat→World→Prop)→Prop)→Prop
 |[],_=>False
 |i::is,f=>f i.1 i.2∨orX is f
def RangeP (P:Program) (gv:Value) (round:(LoopState→Option Code→Obj)→Nat→List Value→World→(Value→World→Prop)→Prop) (os:List (Nat×(Nat→World→Prop))) (K:Nat→World→Prop) (R:Nat→World→Prop) (w:World):Prop:=
 ∀ob:LoopState→Option Code→Obj,(∀st pd (c:Array Value) t f,ob st pd≠.cells c t f)→
  (∀args W Φ,W.heap[w.heap.size+1]?=some (ob .ready none)→round ob (w.heap.size+1) args W Φ→CallV P (.func (.yield (w.heap.size+1)) #[] #[]) args W Φ)→
  ∃(f:FuncId) (first cap:Array Value),gv=.func (.func f) first cap∧bodyB P f=true∧Calls P f (first.toList++[Value.func (.yield (w.heap.size+1)) #[] #[]]++cap.toList).toArray ((w.alloc (.deferred (some []))).alloc (ob .ready none)) fun en w3=>
   (∃v,en=.returned v)∧∃st pd,w3.heap[w.heap.size+1]?=some (ob st pd)∧st≠.busy∧
    ((pd=none∧K w.heap.size (w3.putObj (w.heap.size+1) (ob .exhausted none)))∨(pd=some .ret∧R w.heap.size (w3.putObj (w.heap.size+1) (ob .exhausted (some .ret))))∨
     orX os fun i X=>pd=some (.exit i)∧X w.heap.size (w3.putObj (w.heap.size+1) (ob .exhausted (some (.exit i)))))
def RoundP (ob:LoopState→Option Code→Obj) (l:Nat) (Φ:Value→World→Prop) (body:(World→Prop)→(Nat→World→Prop)→(World→Prop)→World→Prop) (w1:World):Prop:=
 w1.heap[l]?=some (ob .ready none)∧body (fun w2=>w2.heap[l]?=some (ob .busy none)∧Φ (.bool true) (w2.putObj l (ob .ready none)))
  (fun i w2=>w2.heap[l]?=some (ob .busy none)∧Φ (.bool false) (w2.putObj l (ob .done (some (.exit i)))))
  (fun w2=>w2.heap[l]?=some (ob .busy none)∧Φ (.bool false) (w2.putObj l (ob .done (some .ret)))) (w1.putObj l (ob .busy none))
def den (P:Program):Bool→Code→Plan→(Env→World→Prop)→(Nat→Env→World→Prop)→(Env→World→Prop)→Env→World→Prop
 |_,.skip,_,K,_,_,e,w=>K e w
 |_,.label _,_,K,_,_,e,w=>K e w
 |_,.region _ ops false,_,K,_,_,e,w=>denOps P ops.toList K ops.toList e w
 |_,.region _ ops true,_,K,_,_,e,w=>if lexOk P ops&&P.follows .mixedOrders then ∃D:World→Prop,D w.drew∧denLex P ops.toList (lastAll ops.toList) (twoAt P ops.toList) D K ops.toList 0 e w.drew else if anyOk ops&&P.follows .mixedOrders then ∃D:World→Prop,D w.drew∧denAny P ops D K ops.size (Array.replicate ops.size false) e w.drew else False
 |top,.seq a b,pl,K,X,R,e,w=>match pl with
  |.j live p q=>Join (fun vs w=>exVs (live.map (·.2)) fun us=>vs=us∧den P top b q K X R (fill (kill e (mods a)) live us) w)
    fun J=>den P top a p (fun e' w'=>livesM e.ms.length e' live fun vs=>J vs w') X R e w
  |.s p q=>den P top a p (fun e' w'=>den P top b q K X R e' w') X R e w
  |_=>den P top a .o (fun e' w'=>den P top b .o K X R e' w') X R e w
 |top,.cond c a b,pl,K,X,R,e,w=>
  let (p,q):=match pl with|.c p q=>(p,q)|_=>(.o,.o)
  match c,ev e c with
  |_,.t=>den P top a p K X R e w
  |_,.f=>den P top b q K X R e w
  |.tmp i,.v (.bool x)=>(x=true→den P top a p K X R (set e i .t) w)∧(x=false→den P top b q K X R (set e i .f) w)
  |_,_=>False
 |top,.block id c,pl,K,X,R,e,w=>match pl with
  |.bj live p=>Join (fun vs w=>exVs (live.map (·.2)) fun us=>vs=us∧K (fill (kill e (mods c)) live us) w)
    fun J=>den P top c p (fun e' w'=>livesM e.ms.length e' live fun vs=>J vs w') (fun i e' w'=>if i=id then livesM e.ms.length e' live fun vs=>J vs w' else X i e' w') R e w
  |.b p=>den P top c p K (fun i e' w'=>if i=id then K e' w' else X i e' w') R e w
  |_=>den P top c .o K (fun i e' w'=>if i=id then K e' w' else X i e' w') R e w
 |top,.scope c,pl,K,X,R,e,w=>den P top c pl K X R e w
 |top,.loop c,pl,_,X,R,e,w=>match pl with
  |.l live p=>LoopP (fun I=>lives e live fun vs=>I vs w)
    fun K' vs w=>exVs (live.map (·.2)) fun us=>vs=us∧den P top c p (fun e' w'=>livesM e.ms.length e' live fun vs'=>K' vs' w') X R (fill (kill e (mods c)) live us) w
  |_=>False
 |top,.rangeFunc g ps assign body,pl,K,X,R,e,w=>match pl with
  |.rf live p=>if top&&(live.map (·.1)==ps.toList)&&live.all (fun x=>decide (x.1<e.s.length)) then wv (ev e g) fun gv=>
    RangeP P gv (fun ob l args W Φ=>exVs (live.map (·.2)) fun us=>if us.length==live.length then args=us∧
     den P false assign .o (fun e1 w1=>RoundP ob l Φ (fun K2 X2 R2 w3=>den P false body p (fun _ w4=>K2 w4) (fun i _ w4=>X2 i w4) (fun _ w4=>R2 w4) e1 w3) w1) (fun _ _ _=>False) (fun _ _=>False) (fill ⟨e.s,[]⟩ live us) W else False)
     ((outs body).map fun i=>(i,fun d w'=>X i ⟨e.s,mk d::e.ms⟩ w')) (fun d w'=>K ⟨e.s,mk d::e.ms⟩ w') (fun d w'=>R ⟨e.s,mk d::e.ms⟩ w') w
   else False
  |_=>False
 |_,.exit i,_,_,X,_,e,w=>X i e w
 |_,.ret,_,_,_,R,e,w=>R e w
 |_,_,_,_,_,_,_,_=>False
def Same (m:List Nat) (t t':Array Value):Prop:=t'.size=t.size∧∀i,i∉m→t'.getD i undef=t.getD i undef
theorem Same.refl (m:List Nat) (t:Array Value):Same m t t:=⟨rfl,fun _ _=>rfl⟩
theorem Same.trans {m:List Nat}{t t' t'':Array Value}(h:Same m t t') (h':Same m t' t''):Same m t t'':=⟨h'.1.trans h.1,fun i hi=>(h'.2 i hi).trans (h.2 i hi)⟩
theorem Same.mono {m m':List Nat}{t t':Array Value}(hm:∀i,i∈m→i∈m') (h:Same m t t'):Same m' t t':=⟨h.1,fun i hi=>h.2 i fun hx=>hi (hm i hx)⟩
theorem Same.put {m:List Nat}(a:Act) (d:Option Tmp) (v:Value) (hd:∀x,d=some x→x∈m):Same m a.tmps (a.put d v).tmps:=by
 cases d with
 |none=>exact Same.refl _ _
 |some d=>
  refine⟨by simp[Act.put],fun i hi=>?_⟩
  have hne:d≠i:=fun h=>hi (h▸hd d rfl)
  simp[Act.put,Array.getD_eq_getD_getElem?,Array.getElem?_setIfInBounds_ne hne]
def EndsIn (K:Env→World→Prop) (X:Nat→Env→World→Prop) (R:Env→World→Prop):Exit→Env→World→Prop
 |.normal,e,w=>K e w
 |.exit i,e,w=>X i e w
 |.ret,e,w=>R e w
 |_,_,_=>False
def Mk (ms:List Deferred) (a:Act) (e':Env) (a':Act):Prop:=∃l,e'.ms=l++ms∧a'.defers=l++a.defers
theorem Mk.refl (e:Env) (a:Act):Mk e.ms a e a:=⟨[],rfl,rfl⟩
theorem Mk.same {ms:List Deferred}{a:Act}{e':Env}{a':Act}(h:Mk ms a e' a') (hl:e'.ms.length=ms.length):e'.ms=ms∧a'.defers=a.defers:=by
 obtain⟨l,h1,h2⟩:=h
 have:l=[]:=by
  rw[h1,List.length_append]at hl
  exact List.eq_nil_of_length_eq_zero (by omega)
 subst this
 exact⟨h1,h2⟩
theorem Mk.trans {ms:List Deferred}{a a' a'':Act}{e' e'':Env}(h:Mk ms a e' a') (h':Mk e'.ms a' e'' a''):Mk ms a e'' a'':=by
 obtain⟨l,h1,h2⟩:=h
 obtain⟨l',h3,h4⟩:=h'
 exact⟨l'++l,by rw[h3,h1,List.append_assoc],by rw[h4,h2,List.append_assoc]⟩
theorem livesM_elim {m:Nat}{e:Env}{l:List (Nat×VK)}{k:List Value→Prop}(h:livesM m e l k):e.ms.length=m∧lives e l k:=by
 unfold livesM at h
 split at h
 ·rename_i hm; exact⟨by simpa using hm,h⟩
 ·exact h.elim
def QD (m:List Nat) (a:Act) (ms:List Deferred) (K:Env→World→Prop) (X:Nat→Env→World→Prop) (R:Env→World→Prop):Exit→Act→World→Prop:=
 fun ex a' w'=>Same m a.tmps a'.tmps∧∃e',Mk ms a e' a'∧Rel e' a'.tmps∧EndsIn K X R ex e' w'
theorem opAt_eq:∀(l:List Oper) (j:Nat),opAt l j=l[j]?
 |[],_=>rfl
 |_::_,0=>rfl
 |_::os,n+1=>by simpa[opAt] using opAt_eq os n
theorem Rel.set_same {e:Env}{tmps:Array Value}(h:Rel e tmps){d:Nat}{s:SV}{v:Value}(hs:s.val?=some v) (hv:tmps.getD d undef=v):Rel (set e d s) tmps:=by
 refine⟨by rw[set_len]; exact h.len,fun i x hx=>?_⟩
 by_cases hid:d=i
 ·subst hid
  by_cases hlt:d<e.s.length
  ·rw[get_set_eq e d s hlt,hs]at hx; cases hx; exact hv
  ·have h0:get (set e d s) d=.dead:=get_ge _ _ (by rw[set_len]; exact Nat.le_of_not_lt hlt)
   rw[h0]at hx; cases hx
 ·rw[get_set_ne e d i s hid]at hx; exact h.at' i x hx
theorem getD_some {t:Array Value}{d:Nat}{v:Value}(h:t.getD d undef=v) (hv:v≠undef):t[d]?=some v:=by
 rw[Array.getD_eq_getD_getElem?]at h
 cases hx:t[d]? with
 |none=>rw[hx]at h; exact absurd h.symm hv
 |some x=>rw[hx]at h; simpa using h
theorem guarded_elim {ops:Array Oper}{o:Oper}{e:Env}{a:Act}{exec skip:Env→Prop}(hr:Rel e a.tmps) (h:guarded ops.toList o e exec skip):
  (Region.wanted o (yielded ops a.tmps)=true∧∃e',e'.ms=e.ms∧Rel e' a.tmps∧exec e')∨(Region.wanted o (yielded ops a.tmps)=false∧∃e',e'.ms=e.ms∧Rel e' a.tmps∧skip e'):=by
 unfold guarded at h
 split at h
 ·rename_i hg
  exact .inl ⟨by simp[Region.wanted,hg],e,rfl,hr,h⟩
 ·rename_i j want hg
  split at h
  ·exact h.elim
  ·rename_i d hd
   have hd':(ops[j]?).bind (·.dst)=some d:=by rw[opAt_eq]at hd; simpa using hd
   have key:∀b:Bool,a.tmps.getD d undef=.bool b→yielded ops a.tmps j=some b:=fun b hb=>by
    unfold yielded
    rw[hd']
    simp only[Option.bind_some,getD_some hb (by simp[undef])]
   have hw:∀b:Bool,a.tmps.getD d undef=.bool b→Region.wanted o (yielded ops a.tmps)=(b==want):=fun b hb=>by
    simp[Region.wanted,hg,key b hb]
   split at h
   ·rename_i hs
    have hb:=hr.at' d (.bool true) (by rw[hs]; rfl)
    cases want with
    |true=>exact .inl ⟨by rw[hw true hb]; rfl,e,rfl,hr,h⟩
    |false=>exact .inr ⟨by rw[hw true hb]; rfl,e,rfl,hr,h⟩
   ·rename_i hs
    have hb:=hr.at' d (.bool false) (by rw[hs]; rfl)
    cases want with
    |true=>exact .inr ⟨by rw[hw false hb]; rfl,e,rfl,hr,h⟩
    |false=>exact .inl ⟨by rw[hw false hb]; rfl,e,rfl,hr,h⟩
   ·rename_i vs hs
    have hb:=hr.at' d (.tuple vs) (by rw[hs]; rfl)
    have hy:yielded ops a.tmps j=none:=by
     unfold yielded
     rw[hd']
     simp only[Option.bind_some]
     rw[Array.getD_eq_getD_getElem?]at hb
     cases hx:a.tmps[d]? with
     |none=>rfl
     |some x=>rw[hx]at hb; simp only[Option.getD_some]at hb; subst hb; rfl
    exact .inr ⟨by simp[Region.wanted,hg,hy],e,rfl,hr,h⟩
   ·rename_i b hs
    have hb:=hr.at' d (.bool b) (by rw[hs]; rfl)
    cases b with
    |true=>
     have h:=h.1 rfl
     cases want with
     |true=>exact .inl ⟨by rw[hw true hb]; rfl,set e d .t,rfl,hr.set_same (s:=.t) rfl hb,h⟩
     |false=>exact .inr ⟨by rw[hw true hb]; rfl,set e d .t,rfl,hr.set_same (s:=.t) rfl hb,h⟩
    |false=>
     have h:=h.2 rfl
     cases want with
     |true=>exact .inr ⟨by rw[hw false hb]; rfl,set e d .f,rfl,hr.set_same (s:=.f) rfl hb,h⟩
     |false=>exact .inl ⟨by rw[hw false hb]; rfl,set e d .f,rfl,hr.set_same (s:=.f) rfl hb,h⟩
   ·exact h.elim
theorem denEx_op {P:Program}{ops:List Oper}{o:Oper}{e:Env}{K:SV→World→Prop}{w:World}(h:if entrySrc ops o then denEx P o e K w else denOp P o e K w):denOp P o e K w:=by
 split at h
 ·unfold denEx at h
  split at h
  ·rename_i x i ho
   unfold denOp
   rw[if_pos (by unfold isPure; rw[ho])]
   unfold denPure
   rw[ho]
   have key:∀v,(exV (vk P o.type) fun u=>pureRun P (Instr.extract v i)=some u∧K (.v u) w)→pureK P (Instr.extract v i) fun s=>K s w:=by
    intro v hv
    obtain⟨u,hu,hK⟩:=exV_elim hv
    simp only[pureK,hu]
    exact hK
   show wv (ev e x) fun v=>pureK P (Instr.extract v i) fun s=>K s w
   generalize ev e x=sv at h⊢
   cases sv
   ·exact key _ h
   ·exact key _ h
   ·exact key _ h
   ·exact h
  ·exact h.elim
 ·exact h
theorem denOps_sound {P:Program}(hP:Callable P){ro:Option Nat}{ops:Array Oper}{K:Env→World→Prop}{X:Nat→Env→World→Prop}{R:Env→World→Prop}{a₀:Act}{ms:List Deferred}{m:List Nat}:∀(l:List Oper) (k:Nat) (e:Env) (a:Act) (w:World),
  (∀j,l[j]?=ops[k+j]?)→(∀o∈l,∀d,o.dst=some d→d∈m)→Mk ms a₀ e a→Same m a₀.tmps a.tmps→Rel e a.tmps→denOps P ops.toList K l e w→
  wpOpsIn (FW ro) 0 P ops (QD m a₀ ms K X R) (List.range' k l.length) a w
 |[],_,e,a,w,_,_,hd,hs,hr,h=>by
  simp only[List.length_nil,List.range'_zero,wpOpsIn]
  exact⟨hs,e,hd,hr,h⟩
 |o::l,k,e,a,w,hl,hm,hd,hs,hr,h=>by
  have h0:ops[k]?=some o:=by simpa using(hl 0).symm
  have hl':∀j,l[j]?=ops[k+1+j]?:=fun j=>by have:=hl (j+1); simpa[Nat.add_assoc,Nat.add_comm 1 j] using this
  have hm':∀o∈l,∀d,o.dst=some d→d∈m:=fun o ho=>hm o (List.mem_cons_of_mem _ ho)
  have hdst:∀x,o.dst=some x→x∈m:=hm o List.mem_cons_self
  simp only[List.length_cons,List.range'_succ,wpOpsIn,h0]
  have go:∀(e':Env) (v:Value) (s:SV) (w':World),e'.ms=e.ms→Rel e' a.tmps→(s.val?=some v∨s=.dead)→denOps P ops.toList K l (put e' o.dst s) w'→
    wpOpsIn (FW ro) 0 P ops (QD m a₀ ms K X R) (List.range' (k+1) l.length) (a.put o.dst v) w':=fun e' v s w' hms hr' hsv hk=>
   denOps_sound hP l (k+1) _ _ w' hl' hm' (by
    obtain⟨l0,h1,h2⟩:=hd
    refine⟨l0,?_,?_⟩
    ·rw[put_ms,hms]; exact h1
    ·rw[←h2]; cases o.dst<;>rfl) (hs.trans (Same.put a o.dst v hdst)) (hr'.put o.dst hsv) hk
  rcases guarded_elim hr h with⟨hw,e',hms,hr',hk⟩|⟨hw,e',hms,hr',hk⟩
  ·simp only[hw,if_true]
   obtain⟨h1,h2⟩:=denOp_does hP hr' (denEx_op hk)
   exact wpIn_of_does h2 (Does.mono h1 fun v w' ⟨s,hsv,hK⟩=>go e' v s w' hms hr' hsv hK)
  ·simp only[hw,Bool.false_eq_true,if_false]
   exact⟨fun _ _=>trivial,go e' undef (.v undef) w hms hr' (.inl rfl) hk⟩
theorem loud_nodefer {P:Program}{o:Oper}(h:loud P o=false):notDefer o.op=true:=by
 cases ho:o.op<;>first|rfl|skip
 unfold loud isPure at h
 rw[ho]at h
 simp at h
theorem denLex_sound {P:Program}(hP:Callable P){ops:Array Oper}{D:World→Prop}{K:Env→World→Prop}{X:Nat→Env→World→Prop}{R:Env→World→Prop}{a₀:Act}{ms:List Deferred}{m:List Nat}:∀(l:List Oper) (k:Nat) (e:Env) (a:Act) (w:World),(k+l.length=ops.size)→
  (∀o∈l,∀d,o.dst=some d→d∈m)→Mk ms a₀ e a→Same m a₀.tmps a.tmps→Rel e a.tmps→denLex P ops.toList (lastAll ops.toList) (twoAt P ops.toList) D K l k e w→
  lexS P (loud P) ops (finB2 P ops) (lateB P ops.toList) D (fun a' w'=>QD m a₀ ms K X R .normal a' w') l k a w
 |[],_,e,a,w,_,_,hd,hs,hr,h=>⟨hs,e,hd,hr,h⟩
 |o::l,k,e,a,w,hkl,hm,hd,hs,hr,h=>by
  simp only[List.length_cons]at hkl
  have hm':∀o∈l,∀d,o.dst=some d→d∈m:=fun o ho=>hm o (List.mem_cons_of_mem _ ho)
  have hdst:∀x,o.dst=some x→x∈m:=hm o List.mem_cons_self
  have go:∀(e':Env) (v:Value) (s:SV) (w':World),e'.ms=e.ms→Rel e' a.tmps→(s.val?=some v∨s=.dead)→denLex P ops.toList (lastAll ops.toList) (twoAt P ops.toList) D K l (k+1) (put e' o.dst s) w'→
    lexS P (loud P) ops (finB2 P ops) (lateB P ops.toList) D (fun a' w'=>QD m a₀ ms K X R .normal a' w') l (k+1) (a.put o.dst v) w':=fun e' v s w' hms hr' hsv hk=>
   denLex_sound hP l (k+1) _ _ w' (by omega) hm' (by
    obtain⟨l0,h1,h2⟩:=hd
    refine⟨l0,?_,?_⟩
    ·rw[put_ms,hms]; exact h1
    ·rw[←h2]; cases o.dst<;>rfl) (hs.trans (Same.put a o.dst v hdst)) (hr'.put o.dst hsv) hk
  simp only[lexS]
  rcases guarded_elim hr h with⟨hw,e',hms,hr',hk⟩|⟨hw,e',hms,hr',hk⟩
  ·by_cases hL:loud P o=true
   ·simp only[hL,if_true]at hk⊢
    obtain⟨h1,h2⟩:=denOp_does hP hr' hk
    unfold louD
    simp only[hw,if_true]
    refine⟨Does.mono h1 fun v w' ⟨s,hsv,hK⟩=>?_,h2⟩
    by_cases hf:(lastAll ops.toList&&l.isEmpty||twoAt P ops.toList k)=true
    ·simp only[hf,if_true]at hK
     refine⟨.inl ?_,go e' v s w' hms hr' hsv hK⟩
     unfold finB2
     rw[Bool.or_eq_true]at hf⊢
     rcases hf with hf|hf
     ·left
      simp only[Bool.and_eq_true,List.isEmpty_iff]at hf
      have:l.length=0:=by rw[hf.2]; rfl
      simp only[finB,Bool.and_eq_true,beq_iff_eq]
      exact⟨by omega,hf.1⟩
     ·exact .inr hf
    ·simp only[hf,Bool.false_eq_true,if_false]at hK
     exact⟨.inr hK.1,go e' v s w' hms hr' hsv hK.2⟩
   ·simp only[hL,Bool.false_eq_true,if_false]at hk⊢
    obtain⟨⟨v,sv,h1,h2,h3⟩,h4⟩:=denQ_q hr' hk
    exact⟨⟨v,.inl ⟨hw,h1⟩,go e' v sv w hms hr' (.inl h2) h3⟩,h4⟩
  ·by_cases hL:loud P o=true
   ·simp only[hL,if_true]
    unfold louD
    simp only[hw,Bool.false_eq_true,if_false]
    exact go e' undef (.v undef) w hms hr' (.inl rfl) hk
   ·simp only[hL,Bool.false_eq_true,if_false]
    exact⟨⟨undef,.inr ⟨hw,rfl⟩,go e' undef (.v undef) w hms hr' (.inl rfl) hk⟩,loud_nodefer (by simpa using hL)⟩
theorem denOne_sound {P:Program}(hP:Callable P){ops:Array Oper}{D:World→Prop}{i:Nat}{rest:Env→World→Prop}{e:Env}{a:Act}{w:World}{K':Act→World→Prop}(hr:Rel e a.tmps)
  (go:∀(o:Oper) (e':Env) (v:Value) (s:SV) (w':World),ops[i]?=some o→e'.ms=e.ms→Rel e' a.tmps→(s.val?=some v∨s=.dead)→rest (put e' o.dst s) w'→K' (a.put o.dst v) w')
  (h:denOne P ops D i rest e w):stepD P (loud P) ops (finB ops) (lateB P ops.toList) D i K' a w:=by
 unfold denOne at h
 split at h
 ·exact h.elim
 ·rename_i o ho
  have ho:ops[i]?=some o:=by rw[opAt_eq]at ho; simpa using ho
  unfold stepD
  simp only[ho]
  rcases guarded_elim hr h with⟨hw,e',hms,hr',hk⟩|⟨hw,e',hms,hr',hk⟩
  ·by_cases hL:loud P o=true
   ·simp only[hL,if_true]at hk⊢
    obtain⟨h1,h2⟩:=denOp_does hP hr' hk
    unfold louD
    simp only[hw,if_true]
    refine⟨Does.mono h1 fun v w' ⟨s,hsv,hK⟩=>?_,h2⟩
    by_cases hf:finB ops i=true
    ·simp only[hf,if_true]at hK
     exact⟨.inl hf,go o e' v s w' ho hms hr' hsv hK⟩
    ·simp only[hf,Bool.false_eq_true,if_false]at hK
     exact⟨.inr hK.1,go o e' v s w' ho hms hr' hsv hK.2⟩
   ·simp only[hL,Bool.false_eq_true,if_false]at hk⊢
    obtain⟨⟨v,sv,h1,h2,h3⟩,h4⟩:=denQ_q hr' hk
    exact⟨⟨v,.inl ⟨hw,h1⟩,go o e' v sv w ho hms hr' (.inl h2) h3⟩,h4⟩
  ·by_cases hL:loud P o=true
   ·simp only[hL,if_true]
    unfold louD
    simp only[hw,Bool.false_eq_true,if_false]
    exact go o e' undef (.v undef) w ho hms hr' (.inl rfl) hk
   ·simp only[hL,Bool.false_eq_true,if_false]
    exact⟨⟨undef,.inr ⟨hw,rfl⟩,go o e' undef (.v undef) w ho hms hr' (.inl rfl) hk⟩,loud_nodefer (by simpa using hL)⟩
theorem allS_mono:∀{l:List Nat}{f g:Nat→Prop},(∀i,f i→g i)→allS l f→allS l g
 |[],_,_,_,h=>h
 |[_],_,_,hm,h=>hm _ h
 |_::_::_,_,_,hm,h=>⟨hm _ h.1,allS_mono hm h.2⟩
theorem denAny_sound {P:Program}(hP:Callable P){ops:Array Oper}{D:World→Prop}{K:Env→World→Prop}{X:Nat→Env→World→Prop}{R:Env→World→Prop}{a₀:Act}{ms:List Deferred}{m:List Nat}(hm:∀(i:Nat) o,ops[i]?=some o→∀d,o.dst=some d→d∈m):∀(fuel:Nat) (listed:Array Bool) (e:Env) (a:Act) (w:World),
  Mk ms a₀ e a→Same m a₀.tmps a.tmps→Rel e a.tmps→denAny P ops D K fuel listed e w→
  anyS P (loud P) ops (finB ops) (lateB P ops.toList) D (fun a' w'=>QD m a₀ ms K X R .normal a' w') fuel listed a w:=by
 intro fuel
 induction fuel with
 |zero=>
  intro listed e a w hd hs hr h
  unfold denAny at h
  unfold anyS
  split at h
  ·rename_i h0
   simp only[h0,if_true]
   exact⟨hs,e,hd,hr,h⟩
  ·exact h.elim
 |succ fuel ih=>
  intro listed e a w hd hs hr h
  have one:∀i,denOne P ops D i (denAny P ops D K fuel (listed.setIfInBounds i true)) e w→stepD P (loud P) ops (finB ops) (lateB P ops.toList) D i (anyS P (loud P) ops (finB ops) (lateB P ops.toList) D (fun a' w'=>QD m a₀ ms K X R .normal a' w') fuel (listed.setIfInBounds i true)) a w:=fun i hi=>
   denOne_sound hP hr (fun o e' v s w' ho hms hr' hsv hk=>ih _ _ _ w' (by
    obtain⟨l0,h1,h2⟩:=hd
    refine⟨l0,?_,?_⟩
    ·rw[put_ms,hms]; exact h1
    ·rw[←h2]; cases o.dst<;>rfl) (hs.trans (Same.put a o.dst v (hm i o ho))) (hr'.put o.dst hsv) hk) hi
  unfold denAny at h
  unfold anyS
  split at h
  ·exact⟨hs,e,hd,hr,h⟩
  ·split at h
   ·rename_i i hf
    first
     |exact one i h
     |(simp only[hf]; exact one i h)
   ·rename_i hf
    first
     |exact allS_mono one h
     |(simp only[hf]; exact allS_mono one h)
theorem get_kill:∀(ms:List Nat) (e:Env) (i:Nat),i∉ms→get (kill e ms) i=get e i
 |[],_,_,_=>rfl
 |m::ms,e,i,h=>by
  simp only[List.mem_cons,not_or]at h
  rw[kill,get_kill ms _ i h.2,get_set_ne e m i _ (Ne.symm h.1)]
theorem get_kill_dead:∀(ms:List Nat) (e:Env) (i:Nat),i∈ms→(get (kill e ms) i)=.dead
 |m::ms,e,i,h=>by
  rw[kill]
  by_cases hi:i∈ms
  ·exact get_kill_dead ms _ i hi
  ·rw[get_kill ms _ i hi]
   have:i=m:=by simpa[hi] using h
   subst this
   by_cases hlt:i<e.s.length
   ·exact get_set_eq e i _ hlt
   ·exact get_ge _ _ (by rw[set_len]; exact Nat.le_of_not_lt hlt)
theorem kill_len:∀(ms:List Nat) (e:Env),(kill e ms).s.length=e.s.length
 |[],_=>rfl
 |m::ms,e=>by rw[kill,kill_len ms,set_len]
theorem Rel.kill {e:Env}{t t':Array Value}{m:List Nat}(hr:Rel e t) (hs:Same m t t'):Rel (kill e m) t':=by
 refine⟨by rw[kill_len,hr.len,hs.1],fun i x hx=>?_⟩
 by_cases hi:i∈m
 ·rw[get_kill_dead m e i hi]at hx; cases hx
 ·rw[get_kill m e i hi]at hx
  exact(hs.2 i hi).trans (hr.at' i x hx)
theorem kill_ms:∀(ms:List Nat) (e:Env),(kill e ms).ms=e.ms
 |[],_=>rfl
 |m::ms,e=>by rw[kill,kill_ms ms]; rfl
theorem fill_ms:∀(ls:List (Nat×VK)) (vs:List Value) (e:Env),(fill e ls vs).ms=e.ms
 |[],_,_=>by unfold fill; rfl
 |_::_,[],_=>by unfold fill; rfl
 |(i,k)::ls,v::vs,e=>by rw[fill,fill_ms ls vs]; rfl
theorem Rel.fill {t:Array Value}:∀{live:List (Nat×VK)}{us:List Value}{e:Env},Rel e t→(∀(n:Nat) i k,live[n]?=some (i,k)→∀u,us[n]?=some u→t.getD i undef=u)→Rel (fill e live us) t
 |[],_,_,hr,_=>hr
 |_::_,[],_,hr,_=>hr
 |(i,k)::ls,v::vs,e,hr,h=>by
  rw[Sh.fill]
  exact Rel.fill (hr.set_same (s:=.v v) rfl (h 0 i k rfl v rfl)) fun n i' k' hn u hu=>h (n+1) i' k' (by simpa using hn) u (by simpa using hu)
theorem lives_elim {e:Env}{t:Array Value}(hr:Rel e t):∀{live:List (Nat×VK)}{k:List Value→Prop},lives e live k→∃vs:List Value,k vs∧∀(n:Nat) i tk,live[n]?=some (i,tk)→∀u,vs[n]?=some u→t.getD i undef=u
 |[],k,h=>⟨[],h,fun n i tk hn=>by simp at hn⟩
 |(i,tk)::ls,k,h=>by
  simp only[lives]at h
  obtain⟨v,hv,h⟩:=wv_elim h
  obtain⟨vs,hk,hvs⟩:=lives_elim hr h
  refine⟨v::vs,hk,fun n i' tk' hn u hu=>?_⟩
  cases n with
  |zero=>simp only[List.getElem?_cons_zero,Option.some.injEq]at hn hu; cases hn; subst hu; exact hr.at' _ _ hv
  |succ n=>exact hvs n i' tk' (by simpa using hn) u (by simpa using hu)
theorem QD.weak {m m':List Nat}{a a':Act}{ms ms':List Deferred}{K K':Env→World→Prop}{X:Nat→Env→World→Prop}{R:Env→World→Prop}{ex:Exit}{a'':Act}{w:World}{e1:Env}
  (hd:Mk ms a e1 a') (hms:e1.ms=ms') (hs:Same m' a.tmps a'.tmps) (hm:∀i,i∈m→i∈m') (h:QD m a' ms' K X R ex a'' w) (hk:ex=.normal→∀e,Rel e a''.tmps→Mk ms a e a''→K e w→K' e w):QD m' a ms K' X R ex a'' w:=by
 obtain⟨h2,e',h1,hr,he⟩:=h
 subst hms
 have h3:=hd.trans h1
 refine⟨hs.trans (h2.mono hm),e',h3,hr,?_⟩
 cases ex<;>first|exact he|exact hk rfl e' hr h3 he
theorem Rel.params {live:List (Nat×VK)}:∀{us:List Value}{e:Env}{t:Array Value},Rel e t→us.length=live.length→(∀x∈live,x.1<t.size)→Rel (Sh.fill e live us) (((live.map (·.1)).zip us).foldl (fun tmps (x:Tmp×Value)=>tmps.setIfInBounds x.1 x.2) t):=by
 induction live with
 |nil=>intro us e t hr hl _; cases us<;>first|exact hr|cases hl
 |cons x live ih=>
  intro us e t hr hl hx
  obtain⟨i,k⟩:=x
  cases us with
  |nil=>cases hl
  |cons u us=>
   simp only[List.map_cons,List.zip_cons_cons,List.foldl_cons,Sh.fill]
   refine ih ⟨by rw[set_len]; simpa using hr.len,fun j y hy=>?_⟩ (by simpa using hl) (fun y hy=>by simpa using hx y (List.mem_cons_of_mem _ hy))
   have hi:i<t.size:=hx (i,k) List.mem_cons_self
   by_cases hij:i=j
   ·subst hij
    rw[get_set_eq e i _ (by rw[hr.len]; exact hi)]at hy
    cases hy
    simp[Array.getD,hi]
   ·rw[get_set_ne e i j _ hij]at hy
    have:=hr.at' j y hy
    simpa[Array.getD_eq_getD_getElem?,Array.getElem?_setIfInBounds_ne hij] using this
def noG (Q:Exit→Act→World→Prop):Exit→Act→World→Prop
 |.goto _,_,_=>False
 |e,a,w=>Q e a w
theorem stepR_scope {P:Program}{b:Frame}{a:Act}{k:List Item}{cs:List Frame}{w:World}{c:Code}:step P (lone (b.atR a (.code (.scope c)::k)) cs w)=.next (lone (b.atR a (.code c::.inScope c::k)) cs w):=
 step_lone_go (by simp[stepG,stepG.exec,Frame.atR])
theorem stepR_inScope {P:Program}{b:Frame}{a:Act}{k:List Item}{cs:List Frame}{w:World}{c:Code}:step P (lone (b.atR a (.inScope c::k)) cs w)=.next (lone (b.atR a k) cs w):=
 step_lone_go (by simp[stepG,stepG.exec,Frame.atR])
theorem wpIn_scope {F:Fence}{n:Nat}{P:Program}{Q:Exit→Act→World→Prop}{a:Act}{w:World}{c:Code}(h:c.wpIn F n P (noG Q) a w):(Code.scope c).wpIn F n P Q a w:=by
 intro b k cs hro hb hr
 have h0:(lone (b.atR a (.code (.scope c)::k)) cs w).fenced P F:=fenced_calm hb hr rfl
 obtain⟨e,a₁,w₁,hq,harr⟩:=h b (.inScope c::k) cs hro hb hr
 have hx:∀id,exitTo id (.inScope c::k)=exitTo id k:=fun id=>by simp[exitTo]
 cases e with
 |normal=>exact⟨.normal,a₁,w₁,hq,.head h0 stepR_scope (StepsIn.trans harr (.one (fenced_calm hb hr rfl) stepR_inScope))⟩
 |exit id=>exact⟨.exit id,a₁,w₁,hq,fun k' hk=>.head h0 stepR_scope (harr.1 k' (by rw[hx]; exact hk)),
    fun hr' hk=>let ⟨k₁,h1,h2⟩:=harr.2 hr' (by rw[hx]; exact hk); ⟨k₁,h1,.head h0 stepR_scope h2⟩⟩
 |goto l=>exact hq.elim
 |ret=>exact⟨_,a₁,w₁,hq,.of_steps (.one h0 stepR_scope) harr⟩
 |panic ch=>exact⟨_,a₁,w₁,hq,.of_steps (.one h0 stepR_scope) harr⟩
 |outgrown=>exact⟨_,a₁,w₁,hq,.of_steps (.one h0 stepR_scope) harr⟩
theorem den_sound {P:Program}(hP:Callable P):∀(ro:Option Nat) (top:Bool) (c:Code) (pl:Plan) (K:Env→World→Prop) (X:Nat→Env→World→Prop) (R:Env→World→Prop) (e:Env) (a:Act) (w:World),
  (top=true→ro=none)→den P top c pl K X R e w→Rel e a.tmps→c.wpIn (FW ro) 0 P (QD (mods c) a e.ms K X R) a w
 |ro,top,.skip,pl,K,X,R,e,a,w,ht,h,hr=>wpIn_skip ⟨Same.refl _ _,e,.refl e a,hr,by simpa[den,EndsIn] using h⟩
 |ro,top,.label _,pl,K,X,R,e,a,w,ht,h,hr=>wpIn_label ⟨Same.refl _ _,e,.refl e a,hr,by simpa[den,EndsIn] using h⟩
 |ro,top,.exit i,pl,K,X,R,e,a,w,ht,h,hr=>wpIn_exit ⟨Same.refl _ _,e,.refl e a,hr,by simpa[den,EndsIn] using h⟩
 |ro,top,.ret,pl,K,X,R,e,a,w,ht,h,hr=>wpIn_ret ⟨Same.refl _ _,e,.refl e a,hr,by simpa[den,EndsIn] using h⟩
 |ro,top,.region id ops d,pl,K,X,R,e,a,w,ht,h,hr=>by
  cases d with
  |false=>
   simp only[den]at h
   refine wpIn_region ?_
   have:=denOps_sound hP (ro:=ro) (ops:=ops) (X:=X) (R:=R) (a₀:=a) (ms:=e.ms) (m:=mods (.region id ops false)) ops.toList 0 e a w (by simp) (fun o ho d hd=>by simp only[mods,List.mem_filterMap]; exact⟨o,ho,hd⟩) (.refl e a) (Same.refl _ _) hr h
   rwa [Array.length_toList,←List.range_eq_range']at this
  |true=>
   simp only[den]at h
   split at h
   ·rename_i hB
    simp only[Bool.and_eq_true]at hB
    obtain⟨D,hD,h⟩:=h
    exact wpIn_lex hB.2 hB.1 hD (denLex_sound hP (ms:=e.ms) ops.toList 0 e a _ (by simp) (fun o ho d hd=>by simp only[mods,List.mem_filterMap]; exact⟨o,ho,hd⟩) (.refl e a) (Same.refl _ _) hr h)
   split at h
   ·rename_i hB
    simp only[Bool.and_eq_true]at hB
    obtain⟨D,hD,h⟩:=h
    exact wpIn_any2 hB.2 hB.1 hD (denAny_sound hP (ms:=e.ms) (m:=mods (.region id ops true)) (fun i o ho d hd=>by simp only[mods,List.mem_filterMap]; exact⟨o,by simpa using Array.mem_of_getElem? ho,hd⟩) ops.size _ e a _ (.refl e a) (Same.refl _ _) hr h)
   ·exact h.elim
 |ro,top,.seq x y,pl,K,X,R,e,a,w,ht,h,hr=>by
  have plain:∀p q,den P top x p (fun e' w'=>den P top y q K X R e' w') X R e w→(Code.seq x y).wpIn (FW ro) 0 P (QD (mods (.seq x y)) a e.ms K X R) a w:=fun p q h=>by
   refine wpIn_seq (wpIn_mono (den_sound hP ro top x p _ X R e a w ht h hr) fun ex a' w' hq=>?_)
   cases ex with
   |normal=>
    obtain⟨h2,e',h1,hr',hk⟩:=hq
    exact wpIn_mono (den_sound hP ro top y q K X R e' a' w' ht hk hr') fun ex'' a'' w'' hq'=>
     QD.weak h1 rfl (h2.mono fun i hi=>by simp[mods,hi]) (fun i hi=>by simp[mods,hi]) hq' fun _ _ _ _ hk=>hk
   |_=>exact QD.weak (.refl e a) rfl (Same.refl _ _) (fun i hi=>by simp[mods,hi]) hq fun hx=>by cases hx
  unfold den at h
  split at h
  ·rename_i live p q
   unfold Join at h
   refine wpIn_seq (wpIn_mono (den_sound hP ro top x p _ X R e a w ht h hr) fun ex a' w' hq=>?_)
   cases ex with
   |normal=>
    obtain⟨h2,e',h1,hr',hk⟩:=hq
    obtain⟨hml,hk⟩:=livesM_elim hk
    obtain⟨hms,hdf⟩:=h1.same hml
    obtain⟨vs,hvs,hat⟩:=lives_elim hr' hk
    obtain⟨us,rfl,hden⟩:=exVs_elim hvs
    have hms2:(fill (kill e (mods x)) live vs).ms=e.ms:=by rw[fill_ms,kill_ms]
    exact wpIn_mono (den_sound hP ro top y q K X R _ a' w' ht hden ((hr.kill h2).fill hat)) fun ex'' a'' w'' hq'=>
     QD.weak (e1:=fill (kill e (mods x)) live vs) ⟨[],hms2,hdf⟩ rfl (h2.mono fun i hi=>by simp[mods,hi]) (fun i hi=>by simp[mods,hi]) hq' fun _ _ _ _ hk=>hk
   |_=>exact QD.weak (.refl e a) rfl (Same.refl _ _) (fun i hi=>by simp[mods,hi]) hq fun hx=>by cases hx
  ·exact plain _ _ h
  ·exact plain _ _ h
 |ro,top,.cond c x y,pl,K,X,R,e,a,w,ht,h,hr=>by
  have yes:∀p (e':Env),e'.ms=e.ms→Rel e' a.tmps→a.eval c=.bool true→den P top x p K X R e' w→(Code.cond c x y).wpIn (FW ro) 0 P (QD (mods (.cond c x y)) a e.ms K X R) a w:=fun p e' hms hr' hc h=>
   wpIn_cond_true hc (wpIn_mono (den_sound hP ro top x p K X R e' a w ht h hr') fun ex a' w' hq=>QD.weak (e1:=e') ⟨[],hms,rfl⟩ rfl (Same.refl _ _) (fun i hi=>by simp[mods,hi]) hq fun _ _ _ _ hk=>hk)
  have no:∀p (e':Env),e'.ms=e.ms→Rel e' a.tmps→a.eval c=.bool false→den P top y p K X R e' w→(Code.cond c x y).wpIn (FW ro) 0 P (QD (mods (.cond c x y)) a e.ms K X R) a w:=fun p e' hms hr' hc h=>
   wpIn_cond_false hc (wpIn_mono (den_sound hP ro top y p K X R e' a w ht h hr') fun ex a' w' hq=>QD.weak (e1:=e') ⟨[],hms,rfl⟩ rfl (Same.refl _ _) (fun i hi=>by simp[mods,hi]) hq fun _ _ _ _ hk=>hk)
  unfold den at h
  generalize (match pl with|.c p q=>(p,q)|_=>(Plan.o,Plan.o))=pq at h
  obtain⟨p,q⟩:=pq
  simp only at h
  split at h
  ·rename_i _ c' hc
   exact yes p e rfl hr (ev_val hr _ (by rw[hc]; rfl)) h
  ·rename_i _ c' hc
   exact no q e rfl hr (ev_val hr _ (by rw[hc]; rfl)) h
  ·rename_i i b hc
   have hb:=ev_val hr (.tmp i) (v:=.bool b) (by rw[hc]; rfl)
   cases b with
   |true=>exact yes p (set e i .t) rfl (hr.set_same (s:=.t) rfl hb) hb (h.1 rfl)
   |false=>exact no q (set e i .f) rfl (hr.set_same (s:=.f) rfl hb) hb (h.2 rfl)
  ·exact h.elim
 |ro,top,.block id c,pl,K,X,R,e,a,w,ht,h,hr=>by
  have plain:∀p,den P top c p K (fun i e' w'=>if i=id then K e' w' else X i e' w') R e w→(Code.block id c).wpIn (FW ro) 0 P (QD (mods (.block id c)) a e.ms K X R) a w:=fun p h=>by
   refine wpIn_block (wpIn_mono (den_sound hP ro top c p K _ R e a w ht h hr) fun ex a' w' hq=>?_)
   obtain⟨h2,e',h1,hr',he⟩:=hq
   cases ex with
   |exit i=>
    simp only[EndsIn]at he
    simp only[Exit.inBlock]
    split
    ·rename_i hi; simp only[hi,if_true]at he; exact⟨h2,e',h1,hr',he⟩
    ·rename_i hi; simp only[hi,if_false]at he; exact⟨h2,e',h1,hr',he⟩
   |_=>exact⟨h2,e',h1,hr',he⟩
  unfold den at h
  split at h
  ·rename_i live p
   unfold Join at h
   refine wpIn_block (wpIn_mono (den_sound hP ro top c p _ _ R e a w ht h hr) fun ex a' w' hq=>?_)
   obtain⟨h2,e',h1,hr',he⟩:=hq
   have land:(livesM e.ms.length e' live fun vs=>exVs (live.map (·.2)) fun us=>vs=us∧K (fill (kill e (mods c)) live us) w')→QD (mods (.block id c)) a e.ms K X R .normal a' w':=fun he=>by
    obtain⟨hml,he⟩:=livesM_elim he
    obtain⟨hms,hdf⟩:=h1.same hml
    obtain⟨vs,hvs,hat⟩:=lives_elim hr' he
    obtain⟨us,rfl,hk⟩:=exVs_elim hvs
    exact⟨h2,fill (kill e (mods c)) live vs,⟨[],by rw[fill_ms,kill_ms]; rfl,hdf⟩,(hr.kill h2).fill hat,hk⟩
   cases ex with
   |normal=>exact land he
   |exit i=>
    simp only[EndsIn]at he
    simp only[Exit.inBlock]
    split
    ·rename_i hi; simp only[hi,if_true]at he; exact land he
    ·rename_i hi; simp only[hi,if_false]at he; exact⟨h2,e',h1,hr',he⟩
   |_=>exact⟨h2,e',h1,hr',he⟩
  ·exact plain _ h
  ·exact plain _ h
 |ro,top,.loop c,pl,K,X,R,e,a,w,ht,h,hr=>by
  unfold den at h
  split at h
  ·rename_i live p
   obtain⟨I,μ,h0,hround⟩:=h
   let vals:Act→List Value:=fun a'=>live.map fun l=>a'.tmps.getD l.1 undef
   have valsEq:∀(a':Act) (vs:List Value),vs.length=live.length→(∀(n:Nat) i tk,live[n]?=some (i,tk)→∀u,vs[n]?=some u→a'.tmps.getD i undef=u)→vals a'=vs:=fun a' vs hl hat=>by
    apply List.ext_getElem?
    intro n
    simp only[vals,List.getElem?_map]
    cases hn:live[n]? with
    |none=>
     have:=List.getElem?_eq_none_iff.1 hn
     rw[List.getElem?_eq_none_iff.2 (by omega)]; rfl
    |some l=>
     obtain⟨i,tk⟩:=l
     have hlt:n<vs.length:=by have:=(List.getElem?_eq_some_iff.1 hn).1; omega
     have:=hat n i tk hn vs[n] (List.getElem?_eq_getElem hlt)
     rw[List.getElem?_eq_getElem hlt,←this]; rfl
   have livesLen:∀(e':Env) (k:List Value→Prop),lives e' live k→lives e' live (fun vs=>vs.length=live.length∧k vs):=by
    intro e'
    have:∀(l:List (Nat×VK)) (k:List Value→Prop),lives e' l k→lives e' l (fun vs=>vs.length=l.length∧k vs):=by
     intro l
     induction l with
     |nil=>exact fun k h=>⟨rfl,h⟩
     |cons x xs ih=>
      intro k h
      obtain⟨i,tk⟩:=x
      simp only[lives]at h⊢
      cases hg:get e' i<;>simp only[hg,wv]at h⊢ <;>first|exact h.elim|skip
      all_goals
       have:=ih _ h
       have mono:∀(l:List (Nat×VK)) (k k':List Value→Prop),(∀vs,k vs→k' vs)→lives e' l k→lives e' l k':=by
        intro l
        induction l with
        |nil=>exact fun k k' hk h=>hk _ h
        |cons y ys ih2=>
         intro k k' hk h
         obtain⟨i2,tk2⟩:=y
         simp only[lives]at h⊢
         cases hg2:get e' i2<;>simp only[hg2,wv]at h⊢ <;>first|exact h.elim|exact ih2 _ _ (fun vs=>hk _) h
       exact mono xs _ _ (fun vs hv=>⟨by simp[hv.1],hv.2⟩) this
    exact this live
   obtain⟨vs0,⟨hl0,hI0⟩,hat0⟩:=lives_elim hr (livesLen e _ h0)
   refine wpIn_loop (fun a' w'=>a'.defers=a.defers∧Same (mods c) a.tmps a'.tmps∧I (vals a') w') (fun a' w'=>μ (vals a') w') ⟨rfl,Same.refl _ _,by rw[valsEq a vs0 hl0 hat0]; exact hI0⟩ ?_
   rintro a' w' ⟨hd,hs,hI⟩
   obtain⟨us,hu,hden⟩:=exVs_elim (hround (vals a') w' hI)
   subst hu
   have hr':Rel (fill (kill e (mods c)) live (vals a')) a'.tmps:=(hr.kill hs).fill fun n i tk hn u hu=>by
    simp only[vals,List.getElem?_map,hn,Option.map_some,Option.some.injEq]at hu
    exact hu
   refine wpIn_mono (den_sound hP ro top c p _ X R _ a' w' ht hden hr') fun ex a'' w'' hq=>?_
   have hms2:(fill (kill e (mods c)) live (vals a')).ms=e.ms:=by rw[fill_ms,kill_ms]
   rw[hms2]at hq
   obtain⟨h2,e'',h1,hr'',he⟩:=hq
   cases ex with
   |normal=>
    obtain⟨hml,he⟩:=livesM_elim he
    obtain⟨hms,hdf⟩:=h1.same hml
    obtain⟨vs,⟨hl,hIv,hμ⟩,hat⟩:=lives_elim hr'' (livesLen e'' _ he)
    have hv:=valsEq a'' vs hl hat
    exact⟨⟨hdf.trans hd,hs.trans h2,by rw[hv]; exact hIv⟩,by rw[hv]; exact hμ⟩
   |_=>
    obtain⟨l0,g1,g2⟩:=h1
    exact⟨hs.trans h2,e'',⟨l0,g1,g2.trans (by rw[hd])⟩,hr'',he⟩
  ·exact h.elim
 |ro,top,.rangeFunc g ps assign body,pl,K,X,R,e,a,w,ht,h,hr=>by
  unfold den at h
  split at h
  ·rename_i live p
   split at h
   ·rename_i hcond
    simp only[Bool.and_eq_true,beq_iff_eq,List.all_eq_true,decide_eq_true_eq]at hcond
    obtain⟨⟨htop,hps⟩,hlt⟩:=hcond
    obtain rfl:=ht htop
    have hg0:=wv_ev hr h
    refine wpIn_rangeFunc fun fn hfn=>?_
    let d:=w.heap.size
    let l:=w.heap.size+1
    let r:Loop:={ state:=.ready,pending:=none,fn,tmps:=a.tmps,params:=ps,assign,body,defers:=d }
    have hround:∀args W Φ,W.heap[l]?=some (.loop r)→
      (exVs (live.map (·.2)) fun us=>if us.length==live.length then args=us∧den P false assign .o (fun e1 w1=>RoundP (fun st pd=>.loop { r with state:=st,pending:=pd }) l Φ (fun K2 X2 R2 w3=>den P false body p (fun _ w4=>K2 w4) (fun i _ w4=>X2 i w4) (fun _ w4=>R2 w4) e1 w3) w1) (fun _ _ _=>False) (fun _ _=>False) (fill ⟨e.s,[]⟩ live us) W else False)→
      CallV P (.func (.yield l) #[] #[]) args W Φ:=by
     intro args W Φ hW hx
     obtain⟨us,hx⟩:=exVs_elim hx
     split at hx
     ·rename_i hul
      obtain⟨rfl,hx⟩:=hx
      have hul:args.length=live.length:=by simpa using hul
      have hsz:args.toArray.size=ps.size:=by
       rw[List.size_toArray,hul,←Array.length_toList,←hps,List.length_map]
      have hy:=run_yield (P:=P) (r:=r) (args:=args.toArray) hW hsz
      have hrun:(callV (.func (.yield l) #[] #[]) args).run P W=.ok (.round l r.fn ((r.params.zip args.toArray).foldl (fun tmps (x:Tmp×Value)=>tmps.setIfInBounds x.1 x.2) r.tmps) r.assign r.body) W:=by
       have h1:(callV (.func (.yield l) #[] #[]) args).run P W=(Instr.yield l args.toArray).run P W:=by
        simp[callV,Deferred.ofValue,invoke]
       rw[h1,hy]
      show Does P _ W Φ
      unfold Does
      rw[hrun]
      have hrel:Rel (fill ⟨e.s,[]⟩ live args) ((r.params.zip args.toArray).foldl (fun tmps (x:Tmp×Value)=>tmps.setIfInBounds x.1 x.2) r.tmps):=by
       have h2:=Rel.params (live:=live) (us:=args) (e:=⟨e.s,[]⟩) (t:=a.tmps) ⟨hr.len,hr.at'⟩ hul (fun x hx=>by rw[←hr.len]; exact hlt x hx)
       have h3:(r.params.zip args.toArray).foldl (fun tmps (x:Tmp×Value)=>tmps.setIfInBounds x.1 x.2) r.tmps=((live.map (·.1)).zip args).foldl (fun tmps (x:Tmp×Value)=>tmps.setIfInBounds x.1 x.2) a.tmps:=by
        rw[←Array.foldl_toList,Array.toList_zip,hps]
       rw[h3]; exact h2
      have hms0:(fill ⟨e.s,[]⟩ live args).ms=[]:=by rw[fill_ms]
      refine roundIn_of_wpIn (F:=Fence.wide) trivial ?_
      have hA:=den_sound hP (some l) false assign .o _ _ _ _ { tmps:=(r.params.zip args.toArray).foldl (fun tmps (x:Tmp×Value)=>tmps.setIfInBounds x.1 x.2) r.tmps,defers:=[] } W (fun h=>by cases h) hx hrel
      refine wpIn_mono hA fun ex a1 w1 hq=>?_
      obtain⟨_,e1,_,hr1,he1⟩:=hq
      cases ex with
      |normal=>
       obtain⟨hw1,hb⟩:=he1
       refine⟨_,run_beginRound hw1 rfl,?_⟩
       have hB:=den_sound hP (some l) false body p _ _ _ e1 a1 _ (fun h=>by cases h) hb hr1
       refine wpIn_mono hB fun ex2 a2 w2 hq2=>?_
       obtain⟨_,e2,_,_,he2⟩:=hq2
       cases ex2 with
       |normal=>obtain⟨hw2,hΦ⟩:=he2; exact⟨_,_,run_endRound none hw2,_,rfl,hΦ⟩
       |ret=>obtain⟨hw2,hΦ⟩:=he2; exact⟨_,_,run_endRound (some .ret) hw2,_,rfl,hΦ⟩
       |exit i=>obtain⟨hw2,hΦ⟩:=he2; exact⟨_,_,run_endRound (some (.exit i)) hw2,_,rfl,hΦ⟩
       |_=>exact he2.elim
      |_=>exact he1.elim
     ·exact hx.elim
    obtain⟨f,first,cap,hgv,hb,hcall⟩:=hg0 (fun st pd=>.loop { r with state:=st,pending:=pd }) (fun _ _ _ _ _ h=>by cases h) hround
    have henter:=run_enterLoop_outer (P:=P) (w:=w) fn a.tmps ps assign body
    unfold bodyB at hb
    split at hb
    ·rename_i fnc hf
     have hn:=hP.name f fnc hf hb
     have hbn:fnc.body.isNone=false:=by cases hx:fnc.body<;>simp_all
     let W1:World:=(w.alloc (.deferred (some []))).alloc (.loop r)
     refine⟨l,[mk d],W1,{ target:=.fn (.func f) cap,args:=first++#[.func (.yield l) #[] #[]] },W1,f,(first.toList++[Value.func (.yield l) #[] #[]]++cap.toList).toArray,W1,henter,?_,fun _ _=>trivial,?_,fun h=>(by simp[FW,Fence.wide]at h),?_⟩
     ·have:a.eval g=.func (.func f) first cap:=hgv
      simp[resolve,this,Deferred.ofValue]
      rfl
     ·have h2:(first++#[Value.func (.yield l) #[] #[]])++cap=(first.toList++[Value.func (.yield l) #[] #[]]++cap.toList).toArray:=by apply Array.ext'; simp
      simp only[invoke,h2,callFunc,program,Sem.run_bind,Sem.run,Result.andThen_ok,hf,hn,hbn,Bool.false_eq_true,if_false]
      rfl
     ·refine(callsIn_wide (n:=0)).2 (Calls.mono hcall fun en w3 hh=>?_)
      obtain⟨⟨v,rfl⟩,st,pd,hw3,hst,hcase⟩:=hh
      have hend:=run_endLoop (P:=P) hw3 hst
      have hq:∀(e':Env),e'=⟨e.s,mk d::e.ms⟩→Mk e.ms a e' { a with defers:=[mk d]++a.defers }∧Rel e' a.tmps:=by
       rintro e' rfl
       exact⟨⟨[mk d],rfl,rfl⟩,⟨hr.len,hr.at'⟩⟩
      have hm:=hq _ rfl
      refine⟨_,_,hend,?_⟩
      rcases hcase with⟨rfl,hK⟩|⟨rfl,hR⟩|hX
      ·exact⟨Same.refl _ _,_,hm.1,hm.2,hK⟩
      ·exact wpIn_ret ⟨Same.refl _ _,_,hm.1,hm.2,hR⟩
      ·have hor:∀(os:List Nat) (g:Nat→Nat→World→Prop) (f:Nat→(Nat→World→Prop)→Prop),orX (os.map fun i=>(i,g i)) f→∃i,f i (g i):=by
        intro os g f
        induction os with
        |nil=>exact fun h=>h.elim
        |cons i is ih=>exact fun h=>h.elim (fun h=>⟨i,h⟩) ih
       obtain⟨i,rfl,hX2⟩:=hor _ _ _ hX
       exact wpIn_exit ⟨Same.refl _ _,_,hm.1,hm.2,hX2⟩
    ·cases hb
   ·exact h.elim
  ·exact h.elim
 |ro,top,.scope c,pl,K,X,R,e,a,w,ht,h,hr=>by
  unfold den at h
  refine wpIn_scope (wpIn_mono (den_sound hP ro top c pl K X R e a w ht h hr) fun ex a' w' hq=>?_)
  obtain⟨h2,e',h1,hr',he⟩:=hq
  cases ex with
  |goto l=>exact he.elim
  |_=>exact⟨h2,e',h1,hr',he⟩
 |_,_,.goto _,_,_,_,_,_,_,_,_,h,_=>by simp[den]at h
 |_,_,.refuse _,_,_,_,_,_,_,_,_,h,_=>by simp[den]at h
def resK (P:Program) (e:Env) (w:World):List ResultVar→(List Value→Prop)→Prop
 |[],k=>k []
 |.tmp t::rs,k=>wv (get e t) fun v=>resK P e w rs fun vs=>k (v::vs)
 |.cell a t::rs,k=>wv (get e a) fun v=>match v with
  |.pointer (some p)=>denLoad P t p (fun s _=>wv s fun u=>resK P e w rs fun vs=>k (u::vs)) w
  |_=>False
def tupled:List Value→Value
 |[v]=>v
 |vs=>.tuple vs.toArray
def denRes (P:Program) (fn:Func) (R:Value→World→Prop) (e:Env) (w:World):Prop:=resK P e w fn.results.toList fun vs=>R (tupled vs) w
def env0 (args:List Value) (n:Nat):Env:=⟨(args.map SV.v)++List.replicate (n-args.length) .dead,[]⟩
def shutM:List Deferred→(World→Prop)→World→Prop
 |[],K,w=>K w
 |d::ds,K,w=>match d.target with
  |.collected r=>w.heap[r]?=some (.deferred (some []))∧shutM ds K (w.putObj r (.deferred none))
  |_=>False
def fnP (P:Program) (fn:Func) (pl:Plan) (args:List Value) (w:World) (R:Value→World→Prop):Prop:=
 match fn.body with
 |some c=>den P true c pl (fun e w=>shutM e.ms (denRes P fn R e) w) (fun _ _ _=>False) (fun e w=>shutM e.ms (denRes P fn R e) w) (env0 args fn.ntmps) w
 |none=>False
theorem denLoad_val {P:Program}{t:TypeId}{a:Addr}{K:SV→World→Prop}{w:World}(h:denLoad P t a K w):∃v s,(Instr.loadAt t (.pointer (some a))).run P w=.ok v w∧s.val?=some v∧K s w:=by
 unfold denLoad at h
 split at h
 ·rename_i n hk
  obtain⟨d,hd,hg,hn⟩:=vk1_big hk
  obtain⟨cs,hs,hb,hK⟩:=h
  refine⟨.agg cs,.v (.agg cs),loadAgg_run hd hg (by omega) (cellsAll_of_forall fun j hj=>?_),rfl,hK⟩
  have:=hb j (by simpa using hj)
  simpa using this
 ·rename_i ks hv
  obtain⟨d,hd,hg,hn⟩:=vk1_agg hv
  obtain⟨vs,hl,hat,hK⟩:=exL_elim h
  exact⟨.agg vs.toArray,.v (.agg vs.toArray),loadAgg_run hd hg (by simpa using hl.trans hn) (by simpa using cellsAll_of_at hat),rfl,hK⟩
 ·rename_i k hv
  obtain⟨d,hd,hg⟩:=vk1_one hv
  obtain⟨v,hat,hK⟩:=exT_elim h
  exact⟨v,.v v,loadOne_run hd hg hat,rfl,hK⟩
 ·exact h.elim
theorem asAddr_load {P:Program}{t:TypeId}{p:Addr}{w:World}{v:Value}(h:(Instr.loadAt t (.pointer (some p))).run P w=.ok v w):(do loadVar t (←asAddr (.pointer (some p)))).run P w=.ok v w:=by
 simpa[Instr.loadAt,Instr.sureAddr,asAddr] using h
def resOne (tmps:Array Value):ResultVar→Sem Value
 |.tmp t=>pure (tmps.getD t undef)
 |.cell a t=>do loadVar t (←asAddr (tmps.getD a undef))
theorem resK_run {P:Program}{e:Env}{tmps:Array Value}{w:World}(hr:Rel e tmps):∀{rs:List ResultVar}{k:List Value→Prop},resK P e w rs k→
  ∃vs,(rs.mapM (resOne tmps)).run P w=.ok vs w∧k vs
 |[],k,h=>⟨[],rfl,h⟩
 |.tmp t::rs,k,h=>by
  simp only[resK]at h
  obtain⟨v,hv,h⟩:=wv_elim h
  obtain⟨vs,hrun,hk⟩:=resK_run hr h
  refine⟨v::vs,?_,hk⟩
  simp only[List.mapM_cons,resOne,Sem.run_bind,Sem.run_pure,Result.andThen_ok,hrun,hr.at' t v hv]
 |.cell a t::rs,k,h=>by
  simp only[resK]at h
  obtain⟨v,hv,h⟩:=wv_elim h
  split at h
  ·rename_i p
   obtain⟨u,s,hl,hs,h⟩:=denLoad_val h
   obtain⟨u',hu',h⟩:=wv_elim h
   rw[hs]at hu'; cases hu'
   obtain⟨vs,hrun,hk⟩:=resK_run hr h
   refine⟨u::vs,?_,hk⟩
   have h1:=asAddr_load hl
   simp only[List.mapM_cons,resOne,Sem.run_bind,hr.at' a _ hv]at h1⊢
   simp only[asAddr,Sem.run_pure,Result.andThen_ok]at h1⊢
   rw[h1]
   simp[hrun]
  ·exact h.elim
theorem denRes_run {P:Program}{fn:Func}{R:Value→World→Prop}{e:Env}{tmps:Array Value}{w:World}(hr:Rel e tmps) (h:denRes P fn R e w):∃v,(results fn tmps).run P w=.ok v w∧R v w:=by
 obtain⟨vs,hrun,hk⟩:=resK_run hr h
 refine⟨tupled vs,?_,hk⟩
 have hm:fn.results.mapM (resOne tmps)=(do let l ←fn.results.toList.mapM (resOne tmps); pure l.toArray):=by
  rw[Array.mapM_eq_mapM_toList]
  rfl
 have:results fn tmps=(do let vs ←fn.results.mapM (resOne tmps); pure (if h:vs.size=1 then vs[0] else .tuple vs)):=by
  unfold results
  congr 2
 rw[this,hm]
 simp only[Sem.run_bind,hrun,Result.andThen_ok,Sem.run_pure]
 congr 1
 match vs with
 |[]=>rfl
 |[v]=>rfl
 |v::u::vs=>simp[tupled]
theorem env0_rel (args:List Value) (n:Nat):Rel (env0 args n) (args.toArray++Array.replicate (n-args.toArray.size) undef):=by
 refine⟨by simp[env0],fun i x hx=>?_⟩
 have key:∀(l:List Value) (m i:Nat) (x:Value),(getL (l.map SV.v++List.replicate m .dead) i).val?=some x→l[i]?=some x:=by
  intro l
  induction l with
  |nil=>
   intro m
   induction m with
   |zero=>intro i x h; simp[getL,SV.val?]at h
   |succ m ih=>
    intro i x h
    cases i with
    |zero=>simp[List.replicate_succ,getL,SV.val?]at h
    |succ i=>simp only[List.map_nil,List.nil_append,List.replicate_succ,getL]at h; exact absurd (ih i x (by simpa using h)) (by simp)
  |cons y ys ih=>
   intro m i x h
   cases i with
   |zero=>simpa[getL,SV.val?] using h
   |succ i=>simpa using ih m i x (by simpa[getL] using h)
 have h1:=key args _ i x hx
 have hlt:i<args.length:=(List.getElem?_eq_some_iff.1 h1).1
 rw[Array.getD_eq_getD_getElem?,Array.getElem?_append_left (by simpa using hlt)]
 simp[h1]
theorem shutM_leaves {P:Program}{fn:Func}{tmps:Array Value}{R:Value→World→Prop}:∀{ds:List Deferred}{K:World→Prop}{w:World},shutM ds K w→(∀w',K w'→∃v,(results fn tmps).run P w'=.ok v w'∧R v w')→
  LeavesInM Fence.wide 0 P fn tmps (fun e w'=>∃v,e=.returned v∧R v w') ds .returning w
 |[],K,w,h,hk=>by
  obtain⟨v,h1,h2⟩:=hk w h
  exact⟨v,h1,v,rfl,h2⟩
 |d::ds,K,w,h,hk=>by
  unfold shutM at h
  split at h
  ·rename_i r ht
   exact⟨by simp,.inl ⟨r,_,ht,run_takeDeferred h.1,shutM_leaves h.2 hk⟩⟩
  ·exact h.elim
theorem fnP_calls {P:Program}(hP:Callable P){f:FuncId}{fn:Func}{pl:Plan}{args:List Value}{w:World}{R:Value→World→Prop}(hf:P.funcs[f]?=some fn)
  (h:fnP P fn pl args w R):Calls P f args.toArray w fun e w'=>∃v,e=.returned v∧R v w':=by
 unfold fnP at h
 split at h
 ·rename_i c hb
  refine callsIn_wide.1 (callsIn_of_wp_marks (F:=Fence.wide) (n:=0) hf hb trivial (wpIn_mono (den_sound hP none true c pl _ _ _ _ _ w (fun _=>rfl) h (env0_rel args fn.ntmps)) fun ex a' w' hq=>?_))
  obtain⟨_,e',hm,hr,he⟩:=hq
  have hd:a'.defers=e'.ms:=by
   obtain⟨l,h1,h2⟩:=hm
   rw[h1,h2]; rfl
  cases ex<;>simp only[EndsIn]at he
  case normal=>show LeavesInM _ _ _ _ _ _ a'.defers _ _; rw[hd]; exact shutM_leaves he fun w2 h2=>denRes_run hr h2
  case ret=>show LeavesInM _ _ _ _ _ _ a'.defers _ _; rw[hd]; exact shutM_leaves he fun w2 h2=>denRes_run hr h2
 ·exact h.elim
theorem rq {P:Program}{f:FuncId}{args:Array Value}{w:World}{v:Value}{Q:World→Prop}(h:Calls P f args w fun e w'=>∃u,e=.returned u∧(u=v∧Q w')):Calls P f args w fun e w'=>e=.returned v∧Q w':=h.mono fun _ _ ⟨_,he,hu,hq⟩=>⟨by rw[he,hu],hq⟩
theorem fnE {P:Program}(hP:Callable P){f:FuncId}{fn:Func}{pl:Plan}{args:List Value}{w:World}{R:Value→World→Prop}(hf:P.funcs[f]?=some fn){X:Prop}(h:X) (he:X=fnP P fn pl args w R):Calls P f args.toArray w fun e w'=>∃v,e=.returned v∧R v w':=fnP_calls hP hf (he▸h)
abbrev Br (c:Bool) (A B:Prop):Prop:=(c=true→A)∧(c=false→B)
abbrev RT (R:Value→World→Prop):Ending→World→Prop:=fun e w=>∃v,e=.returned v∧R v w
abbrev St14 (k:Nat) (v0 v1 v2 v3 v4 v5 v6 v7 v8 v9 v10 v11 v12 v13:Value) (w:World) (K:World→Prop):Prop:=St ⟨k,0,none⟩ v0 w fun w1=>St ⟨k,1,none⟩ v1 w1 fun w2=>St ⟨k,2,none⟩ v2 w2 fun w3=>St ⟨k,3,none⟩ v3 w3 fun w4=>St ⟨k,4,none⟩ v4 w4 fun w5=>St ⟨k,5,none⟩ v5 w5 fun w6=>St ⟨k,6,none⟩ v6 w6 fun w7=>St ⟨k,7,none⟩ v7 w7 fun w8=>St ⟨k,8,none⟩ v8 w8 fun w9=>St ⟨k,9,none⟩ v9 w9 fun w10=>St ⟨k,10,none⟩ v10 w10 fun w11=>St ⟨k,11,none⟩ v11 w11 fun w12=>St ⟨k,12,none⟩ v12 w12 fun w13=>St ⟨k,13,none⟩ v13 w13 K
abbrev St3 (k:Nat) (v0 v1 v2:Value) (w:World) (K:World→Prop):Prop:=St ⟨k,0,none⟩ v0 w fun w1=>St ⟨k,1,none⟩ v1 w1 fun w2=>St ⟨k,2,none⟩ v2 w2 K
abbrev St7 (k:Nat) (v0 v1 v2 v3 v4 v5 v6:Value) (w:World) (K:World→Prop):Prop:=St ⟨k,0,none⟩ v0 w fun w1=>St ⟨k,1,none⟩ v1 w1 fun w2=>St ⟨k,2,none⟩ v2 w2 fun w3=>St ⟨k,3,none⟩ v3 w3 fun w4=>St ⟨k,4,none⟩ v4 w4 fun w5=>St ⟨k,5,none⟩ v5 w5 fun w6=>St ⟨k,6,none⟩ v6 w6 K
abbrev Agiii (x0:Int) (x1:Int) (x2:Int):Value:=.agg #[.int .i64 x0,.int .i64 x1,.int .i64 x2]
abbrev Agiiiiiiiii (x0:Int) (x1:Int) (x2:Int) (x3:Int) (x4:Int) (x5:Int) (x6:Int) (x7:Int) (x8:Int):Value:=.agg #[.int .i64 x0,.int .i64 x1,.int .i64 x2,.int .i64 x3,.int .i64 x4,.int .i64 x5,.int .i64 x6,.int .i64 x7,.int .i64 x8]
abbrev Agiiiss (x0:Int) (x1:Int) (x2:Int) (x3:Option Addr) (x3a x3b:Nat) (x4:Option Addr) (x4a x4b:Nat):Value:=.agg #[.int .i64 x0,.int .i64 x1,.int .i64 x2,.slice x3 x3a x3b,.slice x4 x4a x4b]
abbrev Agiiissii (x0:Int) (x1:Int) (x2:Int) (x3:Option Addr) (x3a x3b:Nat) (x4:Option Addr) (x4a x4b:Nat) (x5:Int) (x6:Int):Value:=.agg #[.int .i64 x0,.int .i64 x1,.int .i64 x2,.slice x3 x3a x3b,.slice x4 x4a x4b,.int .i64 x5,.int .i64 x6]
abbrev Agiiissiiisspppp (x0:Int) (x1:Int) (x2:Int) (x3:Option Addr) (x3a x3b:Nat) (x4:Option Addr) (x4a x4b:Nat) (x5:Int) (x6:Int) (x7:Int) (x8:Option Addr) (x8a x8b:Nat) (x9:Option Addr) (x9a x9b:Nat) (x10:Option Addr) (x11:Option Addr) (x12:Option Addr) (x13:Option Addr):Value:=.agg #[.int .i64 x0,.int .i64 x1,.int .i64 x2,.slice x3 x3a x3b,.slice x4 x4a x4b,.int .i64 x5,.int .i64 x6,.int .i64 x7,.slice x8 x8a x8b,.slice x9 x9a x9b,.pointer x10,.pointer x11,.pointer x12,.pointer x13]
abbrev Agiit (x0:Int) (x1:Int) (x2:ByteArray):Value:=.agg #[.int .i64 x0,.int .i64 x1,.string x2]
abbrev Aguis (x0:Int) (x1:Int) (x2:Option Addr) (x2a x2b:Nat):Value:=.agg #[.int .u64 x0,.int .i64 x1,.slice x2 x2a x2b]
abbrev Rdii (w:World) (k:Nat) (K:Int→Int→Prop):Prop:=∃x0:Int,∃x1:Int,(w.cell? ⟨k,0,none⟩=some (.int .i64 x0)∧w.cell? ⟨k,1,none⟩=some (.int .i64 x1))∧K x0 x1
abbrev Rdiii (w:World) (k:Nat) (K:Int→Int→Int→Prop):Prop:=∃x0:Int,∃x1:Int,∃x2:Int,(w.cell? ⟨k,0,none⟩=some (.int .i64 x0)∧w.cell? ⟨k,1,none⟩=some (.int .i64 x1)∧w.cell? ⟨k,2,none⟩=some (.int .i64 x2))∧K x0 x1 x2
abbrev Rdiiiss (w:World) (k:Nat) (K:Int→Int→Int→Option Addr→Nat→Nat→Option Addr→Nat→Nat→Prop):Prop:=∃x0:Int,∃x1:Int,∃x2:Int,∃(x3:Option Addr) (x3a x3b:Nat),∃(x4:Option Addr) (x4a x4b:Nat),(w.cell? ⟨k,0,none⟩=some (.int .i64 x0)∧w.cell? ⟨k,1,none⟩=some (.int .i64 x1)∧w.cell? ⟨k,2,none⟩=some (.int .i64 x2)∧w.cell? ⟨k,3,none⟩=some (.slice x3 x3a x3b)∧w.cell? ⟨k,4,none⟩=some (.slice x4 x4a x4b))∧K x0 x1 x2 x3 x3a x3b x4 x4a x4b
abbrev Rdiiissii (w:World) (k:Nat) (K:Int→Int→Int→Option Addr→Nat→Nat→Option Addr→Nat→Nat→Int→Int→Prop):Prop:=∃x0:Int,∃x1:Int,∃x2:Int,∃(x3:Option Addr) (x3a x3b:Nat),∃(x4:Option Addr) (x4a x4b:Nat),∃x5:Int,∃x6:Int,(w.cell? ⟨k,0,none⟩=some (.int .i64 x0)∧w.cell? ⟨k,1,none⟩=some (.int .i64 x1)∧w.cell? ⟨k,2,none⟩=some (.int .i64 x2)∧w.cell? ⟨k,3,none⟩=some (.slice x3 x3a x3b)∧w.cell? ⟨k,4,none⟩=some (.slice x4 x4a x4b)∧w.cell? ⟨k,5,none⟩=some (.int .i64 x5)∧w.cell? ⟨k,6,none⟩=some (.int .i64 x6))∧K x0 x1 x2 x3 x3a x3b x4 x4a x4b x5 x6
abbrev Rdiiissiiisspppp (w:World) (k:Nat) (K:Int→Int→Int→Option Addr→Nat→Nat→Option Addr→Nat→Nat→Int→Int→Int→Option Addr→Nat→Nat→Option Addr→Nat→Nat→Option Addr→Option Addr→Option Addr→Option Addr→Prop):Prop:=∃x0:Int,∃x1:Int,∃x2:Int,∃(x3:Option Addr) (x3a x3b:Nat),∃(x4:Option Addr) (x4a x4b:Nat),∃x5:Int,∃x6:Int,∃x7:Int,∃(x8:Option Addr) (x8a x8b:Nat),∃(x9:Option Addr) (x9a x9b:Nat),∃x10:Option Addr,∃x11:Option Addr,∃x12:Option Addr,∃x13:Option Addr,(w.cell? ⟨k,0,none⟩=some (.int .i64 x0)∧w.cell? ⟨k,1,none⟩=some (.int .i64 x1)∧w.cell? ⟨k,2,none⟩=some (.int .i64 x2)∧w.cell? ⟨k,3,none⟩=some (.slice x3 x3a x3b)∧w.cell? ⟨k,4,none⟩=some (.slice x4 x4a x4b)∧w.cell? ⟨k,5,none⟩=some (.int .i64 x5)∧w.cell? ⟨k,6,none⟩=some (.int .i64 x6)∧w.cell? ⟨k,7,none⟩=some (.int .i64 x7)∧w.cell? ⟨k,8,none⟩=some (.slice x8 x8a x8b)∧w.cell? ⟨k,9,none⟩=some (.slice x9 x9a x9b)∧w.cell? ⟨k,10,none⟩=some (.pointer x10)∧w.cell? ⟨k,11,none⟩=some (.pointer x11)∧w.cell? ⟨k,12,none⟩=some (.pointer x12)∧w.cell? ⟨k,13,none⟩=some (.pointer x13))∧K x0 x1 x2 x3 x3a x3b x4 x4a x4b x5 x6 x7 x8 x8a x8b x9 x9a x9b x10 x11 x12 x13
abbrev Rdiit (w:World) (k:Nat) (K:Int→Int→ByteArray→Prop):Prop:=∃x0:Int,∃x1:Int,∃x2:ByteArray,(w.cell? ⟨k,0,none⟩=some (.int .i64 x0)∧w.cell? ⟨k,1,none⟩=some (.int .i64 x1)∧w.cell? ⟨k,2,none⟩=some (.string x2))∧K x0 x1 x2
abbrev Rdsi (w:World) (k:Nat) (K:Option Addr→Nat→Nat→Int→Prop):Prop:=∃(x0:Option Addr) (x0a x0b:Nat),∃x1:Int,(w.cell? ⟨k,0,none⟩=some (.slice x0 x0a x0b)∧w.cell? ⟨k,1,none⟩=some (.int .i64 x1))∧K x0 x0a x0b x1
abbrev Rduis (w:World) (k:Nat) (K:Int→Int→Option Addr→Nat→Nat→Prop):Prop:=∃x0:Int,∃x1:Int,∃(x2:Option Addr) (x2a x2b:Nat),(w.cell? ⟨k,0,none⟩=some (.int .u64 x0)∧w.cell? ⟨k,1,none⟩=some (.int .i64 x1)∧w.cell? ⟨k,2,none⟩=some (.slice x2 x2a x2b))∧K x0 x1 x2 x2a x2b
abbrev RDiii (D:World→Prop) (k:Nat) (K:Int→Int→Int→Prop):Prop:=∃x0:Int,∃x1:Int,∃x2:Int,(∀w,D w→w.cell? ⟨k,0,none⟩=some (.int .i64 x0)∧w.cell? ⟨k,1,none⟩=some (.int .i64 x1)∧w.cell? ⟨k,2,none⟩=some (.int .i64 x2))∧K x0 x1 x2
abbrev RDiiiss (D:World→Prop) (k:Nat) (K:Int→Int→Int→Option Addr→Nat→Nat→Option Addr→Nat→Nat→Prop):Prop:=∃x0:Int,∃x1:Int,∃x2:Int,∃(x3:Option Addr) (x3a x3b:Nat),∃(x4:Option Addr) (x4a x4b:Nat),(∀w,D w→w.cell? ⟨k,0,none⟩=some (.int .i64 x0)∧w.cell? ⟨k,1,none⟩=some (.int .i64 x1)∧w.cell? ⟨k,2,none⟩=some (.int .i64 x2)∧w.cell? ⟨k,3,none⟩=some (.slice x3 x3a x3b)∧w.cell? ⟨k,4,none⟩=some (.slice x4 x4a x4b))∧K x0 x1 x2 x3 x3a x3b x4 x4a x4b
abbrev RDsi (D:World→Prop) (k:Nat) (K:Option Addr→Nat→Nat→Int→Prop):Prop:=∃(x0:Option Addr) (x0a x0b:Nat),∃x1:Int,(∀w,D w→w.cell? ⟨k,0,none⟩=some (.slice x0 x0a x0b)∧w.cell? ⟨k,1,none⟩=some (.int .i64 x1))∧K x0 x0a x0b x1
abbrev RDuis (D:World→Prop) (k:Nat) (K:Int→Int→Option Addr→Nat→Nat→Prop):Prop:=∃x0:Int,∃x1:Int,∃(x2:Option Addr) (x2a x2b:Nat),(∀w,D w→w.cell? ⟨k,0,none⟩=some (.int .u64 x0)∧w.cell? ⟨k,1,none⟩=some (.int .i64 x1)∧w.cell? ⟨k,2,none⟩=some (.slice x2 x2a x2b))∧K x0 x1 x2 x2a x2b
end Go.Sh
