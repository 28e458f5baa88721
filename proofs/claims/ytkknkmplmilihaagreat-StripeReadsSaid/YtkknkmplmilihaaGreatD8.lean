import Derived.Laws.StructEq
import Derived.RowKit3
import Derived.Test.YtkknkmplmilihaaGreatProg
import Derived.Tactics
import Derived.Tactics2
import Derived.Defers
import Derived.Laws.Pointers
import Derived.Laws.LoneSync
import Derived.RegionTactic
import Derived.RegionCalls
import Derived.ChangeAlike
import Derived.Lib.ConvBytes
import Derived.Laws.Slices
import Derived.Test.YtkknkmplmilihaaGreatD2
import Derived.Test.YtkknkmplmilihaaGreatD4
import Derived.Test.YtkknkmplmilihaaGreatD7
set_option linter.unusedSimpArgs false
set_option linter.unusedVariables false
set_option maxHeartbeats 1600000
set_option maxRecDepth 100000
section
namespace Go.Proofs.YtkknkmplmilihaaGreat
open Go.Sh
def OkG (c k r:Int):Prop:=4≤c∧c≤10∧1≤k∧k≤4∧1≤r∧r≤256
instance (c k r:Int):Decidable (OkG c k r):=by unfold OkG; infer_instance
def InG (c k r row n most:Int):Prop:=OkG c k r∧0≤row∧row<r∧0≤n∧n<most
instance (c k r row n most:Int):Decidable (InG c k r row n most):=by unfold InG; infer_instance
def firstG (c row:Int):Int:=(2*c-row%c)%c
theorem data_spec (c k r:Int) (w:World):Ret Tp 248 #[.agg #[.int .i64 c,.int .i64 k,.int .i64 r]] w (.int .i64 (IntKind.i64.wrap (c-2))):=by
 refine ret_of (layout_plan_data_calls ?_)
 unfold layout_plan_data
 have hS:=S.start w
 repeat' (first|(refine Alloc.s (by assumption) ?_; intro _ _ _)|(refine St.s (by assumption) (by repeat constructor) (by simp) (by rfl) rfl ?_; intro _ _)|(exact S.ld (by assumption) (by repeat constructor) (by rfl))|(refine lex_s (by assumption) ?_; intro _)|(refine Join.intro fun J hJ=>?_)|(refine hJ _ _ ?_)|(refine⟨_,_,min_run _ _ _ _ _ _,?_⟩)|(refine⟨_,_,max_run _ _ _ _ _ _,?_⟩)|(refine dec_t ?_; intro _)|(refine dec_f ?_; intro _)|(refine not_t ?_)|(refine not_f ?_)|(refine beq_t ?_; intro _)|(refine beq_f ?_; intro _)|(refine bne_t ?_; intro _)|(refine bne_f ?_; intro _)|(with_reducible apply Exists.intro)|(exact rfl)|(exact S.ext (by assumption))|(show(_:Int)≤_; omega)|(show(_:Int)<_; omega)|(show(_:Int)≠_; omega)|(with_reducible apply And.intro)|(intro _)|(assumption))
theorem index3 (x0 x1 x2 x3 x4 x5 x6 x7 x8:Value) (w:World) (i:Int) (hi:i=0∨i=1∨i=2):
  (Instr.index 262 (.agg #[x0,x1,x2,x3,x4,x5,x6,x7,x8]) (.int .i64 i)).run Tp w=.ok (if i=0 then .agg #[x0,x1,x2] else if i=1 then .agg #[x3,x4,x5] else .agg #[x6,x7,x8]) w:=by
 rcases hi with rfl|rfl|rfl<;>kernel_rfl
def CheckI (c k r:Int) (w:World) (vs:List Value) (w':World):Prop:=∃i:Nat,vs=[.int .i64 i]∧i≤3∧Ext w w'∧(1≤i→4≤c∧c≤10)∧(2≤i→1≤k∧k≤4)∧(3≤i→1≤r∧r≤256)
def CheckM (vs:List Value) (_:World):Nat:=match vs with|[.int _ i]=>3-i.toNat|_=>0
theorem checkI_next {c k r:Int}{w w':World}(i:Nat) (hx:Ext w w') (hi:i<3) (h1:4≤c∧c≤10) (h2:1≤i→1≤k∧k≤4) (h3:2≤i→1≤r∧r≤256):
  CheckI c k r w [.int .i64 (IntKind.i64.wrap ((i:Int)+1))] w':=
 ⟨i+1,by rw[wrap64 _ (by omega) (by omega)]; rfl,by omega,hx,fun _=>h1,fun h=>h2 (by omega),fun h=>h3 (by omega)⟩
theorem checkM_next (i:Nat) (w w':World) (hi:i<3):CheckM [.int .i64 (IntKind.i64.wrap ((i:Int)+1))] w'<CheckM [.int .i64 i] w:=by
 rw[wrap64 _ (by omega) (by omega)]; simp only[CheckM]; omega
theorem check_spec (c k r:Int) (w:World):Ret Tp 135 #[.agg #[.int .i64 c,.int .i64 k,.int .i64 r]] w (.int .i64 (if OkG c k r then 0 else 1)):=by
 refine ret_of (layout_Check_calls ?_)
 unfold layout_Check
 have hS:=S.start w
 refine Alloc.s hS fun b w1 hS1=>?_
 refine⟨_,hS1.ld (by repeat constructor) rfl,_,hS1.ld (by repeat constructor) rfl,_,hS1.ld (by repeat constructor) rfl,?_⟩
 refine⟨CheckI c k r w,CheckM,⟨0,rfl,by omega,hS1.ext,by omega,by omega,by omega⟩,?_⟩
 ·rintro vs w' ⟨i,rfl,hi,hx,h1,h2,h3⟩
  refine⟨_,rfl,fun hlt=>?_,fun hge=>?_⟩
  ·have hlt':(i:Int)<3:=of_decide_eq_true hlt
   have hS':S w w' []:=⟨hx,by simp,fun p h=>by cases h⟩
   have hi':i=0∨i=1∨i=2:=by omega
   rcases hi' with rfl|rfl|rfl
   all_goals
    refine⟨_,_,_,_,index3 _ _ _ _ _ _ _ _ _ _ _ (by omega),?_⟩
    repeat' (first|(refine Alloc.s (by assumption) ?_; intro _ _ _)|(refine St.s (by assumption) (by repeat constructor) (by simp) (by rfl) rfl ?_; intro _ _)|(exact S.ld (by assumption) (by repeat constructor) (by rfl))|(refine lex_s (by assumption) ?_; intro _)|(refine Join.intro fun J hJ=>?_)|(refine hJ _ _ ?_)|(refine⟨_,_,min_run _ _ _ _ _ _,?_⟩)|(refine⟨_,_,max_run _ _ _ _ _ _,?_⟩)|(refine dec_t ?_; intro _)|(refine dec_f ?_; intro _)|(refine not_t ?_)|(refine not_f ?_)|(refine beq_t ?_; intro _)|(refine beq_f ?_; intro _)|(refine bne_t ?_; intro _)|(refine bne_f ?_; intro _)|(with_reducible apply Exists.intro)|(exact rfl)|(exact S.ext (by assumption))|(show(_:Int)≤_; omega)|(show(_:Int)<_; omega)|(show(_:Int)≠_; omega)|(with_reducible apply And.intro)|(intro _)|(assumption))
    all_goals first
     |(refine retInt ?_; rw[if_neg (by unfold OkG; omega)])
     |(refine checkI_next _ (S.ext (by assumption)) (by omega) ?_ ?_ ?_<;>omega)
     |(exact checkM_next _ _ _ (by omega))
  ·have hge':¬(i:Int)<3:=of_decide_eq_false hge
   have:i=3:=by omega
   subst this
   refine⟨?_,hx⟩
   have:=h1 (by omega); have:=h2 (by omega); have:=h3 (by omega)
   rw[if_pos (by unfold OkG; omega)]
theorem good_spec (c k r:Int) (w:World):Ret Tp 196 #[.agg #[.int .i64 c,.int .i64 k,.int .i64 r]] w (.bool (decide (OkG c k r))):=by
 refine ret_of (layout_plan_good_calls ?_)
 unfold layout_plan_good
 have hS:=S.start w
 repeat' (first|(refine Alloc.s (by assumption) ?_; intro _ _ _)|(refine St.s (by assumption) (by repeat constructor) (by simp) (by rfl) rfl ?_; intro _ _)|(exact S.ld (by assumption) (by repeat constructor) (by rfl))|(refine lex_s (by assumption) ?_; intro _)|(refine Ret.useS (by assumption) (check_spec _ _ _ _) ?_; intro _ _)|(refine Join.intro fun J hJ=>?_)|(refine hJ _ _ ?_)|(refine⟨_,_,min_run _ _ _ _ _ _,?_⟩)|(refine⟨_,_,max_run _ _ _ _ _ _,?_⟩)|(refine dec_t ?_; intro _)|(refine dec_f ?_; intro _)|(refine not_t ?_)|(refine not_f ?_)|(refine beq_t ?_; intro _)|(refine beq_f ?_; intro _)|(refine bne_t ?_; intro _)|(refine bne_f ?_; intro _)|(with_reducible apply Exists.intro)|(exact rfl)|(exact S.ext (by assumption))|(show(_:Int)≤_; omega)|(show(_:Int)<_; omega)|(show(_:Int)≠_; omega)|(with_reducible apply And.intro)|(intro _)|(assumption))
 refine retBool ?_
 by_cases h:OkG c k r<;>simp[h]
theorem in_spec (c k r row n most:Int) (w:World):Ret Tp 140 #[.agg #[.int .i64 c,.int .i64 k,.int .i64 r],.int .i64 row,.int .i64 n,.int .i64 most] w (.bool (decide (InG c k r row n most))):=by
 refine ret_of (layout_plan_in_calls ?_)
 unfold layout_plan_in
 have hS:=S.start w
 repeat' (first|(refine Alloc.s (by assumption) ?_; intro _ _ _)|(refine St.s (by assumption) (by repeat constructor) (by simp) (by rfl) rfl ?_; intro _ _)|(exact S.ld (by assumption) (by repeat constructor) (by rfl))|(refine lex_s (by assumption) ?_; intro _)|(refine Ret.useS (by assumption) (good_spec _ _ _ _) ?_; intro _ _)|(refine Join.intro fun J hJ=>?_)|(refine hJ _ _ ?_)|(refine⟨_,_,min_run _ _ _ _ _ _,?_⟩)|(refine⟨_,_,max_run _ _ _ _ _ _,?_⟩)|(refine dec_t ?_; intro _)|(refine dec_f ?_; intro _)|(refine not_t ?_)|(refine not_f ?_)|(refine beq_t ?_; intro _)|(refine beq_f ?_; intro _)|(refine bne_t ?_; intro _)|(refine bne_f ?_; intro _)|(with_reducible apply Exists.intro)|(exact rfl)|(exact S.ext (by assumption))|(show(_:Int)≤_; omega)|(show(_:Int)<_; omega)|(show(_:Int)≠_; omega)|(with_reducible apply And.intro)|(intro _)|(assumption))
 all_goals
  refine retBool ?_
  grind [InG]
theorem tmod_nn {a b:Int}(h:0≤a):Int.tmod a b=a%b:=Int.tmod_eq_emod_of_nonneg h
theorem mod_bd (a:Int){c:Int}(h:0<c):0≤a%c∧a%c<c:=⟨Int.emod_nonneg _ (by omega),Int.emod_lt_of_pos _ h⟩
theorem first_spec (c k r row:Int) (w:World) (hc:4≤c∧c≤10) (hr:0≤row):Ret Tp 187 #[.agg #[.int .i64 c,.int .i64 k,.int .i64 r],.int .i64 row] w (.int .i64 (firstG c row)):=by
 refine ret_of (layout_plan_first_calls ?_)
 unfold layout_plan_first
 have hS:=S.start w
 have h1:=mod_bd row (c:=c) (by omega)
 repeat' (first|(refine Alloc.s (by assumption) ?_; intro _ _ _)|(refine St.s (by assumption) (by repeat constructor) (by simp) (by rfl) rfl ?_; intro _ _)|(exact S.ld (by assumption) (by repeat constructor) (by rfl))|(refine lex_s (by assumption) ?_; intro _)|(refine Join.intro fun J hJ=>?_)|(refine hJ _ _ ?_)|(refine⟨_,_,min_run _ _ _ _ _ _,?_⟩)|(refine⟨_,_,max_run _ _ _ _ _ _,?_⟩)|(refine dec_t ?_; intro _)|(refine dec_f ?_; intro _)|(refine not_t ?_)|(refine not_f ?_)|(refine beq_t ?_; intro _)|(refine beq_f ?_; intro _)|(refine bne_t ?_; intro _)|(refine bne_f ?_; intro _)|(with_reducible apply Exists.intro)|(exact rfl)|(exact S.ext (by assumption))|(show(_:Int)≤_; omega)|(show(_:Int)<_; omega)|(show(_:Int)≠_; omega)|(with_reducible apply And.intro)|(intro _)|(assumption))
 refine retInt ?_
 rw[tmod_nn hr,wrap64 (2*c) (by omega) (by omega),wrap64 _ (by omega) (by omega),tmod_nn (by omega)]
 rfl
theorem firstG_bd (c row:Int) (hc:4≤c∧c≤10):0≤firstG c row∧firstG c row<c:=mod_bd _ (by omega)
def parP (c k r row:Int):Int:=if InG c k r row 0 1 then (firstG c row+c-1)%c else 0
def parQ (c k r row:Int):Int:=if InG c k r row 0 1 then firstG c row else 0
theorem parity_spec (c k r row:Int) (w:World):Ret Tp 219 #[.agg #[.int .i64 c,.int .i64 k,.int .i64 r],.int .i64 row] w (.tuple #[.int .i64 (parP c k r row),.int .i64 (parQ c k r row)]):=by
 refine ret_of (layout_Parity_calls ?_)
 unfold layout_Parity
 have hS:=S.start w
 repeat' (first|(refine Alloc.s (by assumption) ?_; intro _ _ _)|(refine St.s (by assumption) (by repeat constructor) (by simp) (by rfl) rfl ?_; intro _ _)|(exact S.ld (by assumption) (by repeat constructor) (by rfl))|(refine lex_s (by assumption) ?_; intro _)|(refine Ret.useS (by assumption) (in_spec _ _ _ _ _ _ _) ?_; intro _ _)|(refine Ret.useS (by assumption) (first_spec _ _ _ _ _ (by grind [InG,OkG]) (by grind [InG,OkG])) ?_; intro _ _)|(refine Join.intro fun J hJ=>?_)|(refine hJ _ _ ?_)|(refine⟨_,_,min_run _ _ _ _ _ _,?_⟩)|(refine⟨_,_,max_run _ _ _ _ _ _,?_⟩)|(refine dec_t ?_; intro _)|(refine dec_f ?_; intro _)|(refine not_t ?_)|(refine not_f ?_)|(refine beq_t ?_; intro _)|(refine beq_f ?_; intro _)|(refine bne_t ?_; intro _)|(refine bne_f ?_; intro _)|(with_reducible apply Exists.intro)|(exact rfl)|(exact S.ext (by assumption))|(show(_:Int)≤_; omega)|(show(_:Int)<_; omega)|(show(_:Int)≠_; omega)|(with_reducible apply And.intro)|(intro _)|(assumption))
 ·have hn:¬InG c k r row 0 1:=by grind
  simp only[parP,parQ,if_neg hn]
 ·grind [InG,OkG]
 ·have hn:InG c k r row 0 1:=by grind
  have hc:4≤c∧c≤10:=by grind [InG,OkG]
  have h1:=firstG_bd c row hc
  simp only[parP,parQ,if_pos hn]
  rw[wrap64 (firstG c row+c) (by omega) (by omega),wrap64 _ (by omega) (by omega),tmod_nn (by omega)]
theorem in_data (c k r row i:Int):InG c k r row i (IntKind.i64.wrap (c-2))↔InG c k r row i (c-2):=by
 by_cases h:OkG c k r
 ·have:4≤c∧c≤10:=by grind [OkG]
  rw[wrap64 _ (by omega) (by omega)]
 ·simp[InG,h]
def colG (c k r row i:Int):Int:=if InG c k r row i (c-2) then (firstG c row+1+i)%c else 0
def roleG (c k r row col:Int):Int:=if InG c k r row col c then (if (col-firstG c row+c)%c=0 then c-1 else (col-firstG c row+c)%c-1) else 0
def needG (c k r:Int):Int:=if OkG c k r then 4+r*k else 0
theorem rk_bd {c k r:Int}(h:OkG c k r):1≤r*k∧r*k≤1024:=by
 obtain⟨_,_,h3,h4,h5,h6⟩:=h
 constructor
 ·have:=Int.mul_le_mul h5 h3 (by omega) (by omega); omega
 ·have:=Int.mul_le_mul h6 h4 (by omega) (by omega); omega
theorem column_spec (c k r row i:Int) (w:World):Ret Tp 218 #[.agg #[.int .i64 c,.int .i64 k,.int .i64 r],.int .i64 row,.int .i64 i] w (.int .i64 (colG c k r row i)):=by
 refine ret_of (layout_Column_calls ?_)
 unfold layout_Column
 have hS:=S.start w
 repeat' (first|(refine Alloc.s (by assumption) ?_; intro _ _ _)|(refine St.s (by assumption) (by repeat constructor) (by simp) (by rfl) rfl ?_; intro _ _)|(exact S.ld (by assumption) (by repeat constructor) (by rfl))|(refine lex_s (by assumption) ?_; intro _)|(refine Ret.useS (by assumption) (data_spec _ _ _ _) ?_; intro _ _)|(refine Ret.useS (by assumption) (in_spec _ _ _ _ _ _ _) ?_; intro _ _)|(refine Ret.useS (by assumption) (first_spec _ _ _ _ _ (by grind [InG,OkG]) (by grind [InG,OkG])) ?_; intro _ _)|(refine Join.intro fun J hJ=>?_)|(refine hJ _ _ ?_)|(refine⟨_,_,min_run _ _ _ _ _ _,?_⟩)|(refine⟨_,_,max_run _ _ _ _ _ _,?_⟩)|(refine dec_t ?_; intro _)|(refine dec_f ?_; intro _)|(refine not_t ?_)|(refine not_f ?_)|(refine beq_t ?_; intro _)|(refine beq_f ?_; intro _)|(refine bne_t ?_; intro _)|(refine bne_f ?_; intro _)|(with_reducible apply Exists.intro)|(exact rfl)|(exact S.ext (by assumption))|(show(_:Int)≤_; omega)|(show(_:Int)<_; omega)|(show(_:Int)≠_; omega)|(with_reducible apply And.intro)|(intro _)|(assumption))
 ·have hn:¬InG c k r row i (IntKind.i64.wrap (c-2)):=by assumption
  rw[in_data]at hn
  simp only[colG,if_neg hn]
 ·grind [InG,OkG]
 ·have hn:InG c k r row i (IntKind.i64.wrap (c-2)):=by assumption
  rw[in_data]at hn
  have hc:4≤c∧c≤10:=by grind [InG,OkG]
  have hi:0≤i∧i<c-2:=by grind [InG]
  have h1:=firstG_bd c row hc
  simp only[colG,if_pos hn]
  rw[wrap64 (firstG c row+1) (by omega) (by omega),wrap64 _ (by omega) (by omega),tmod_nn (by omega)]
theorem role_spec (c k r row col:Int) (w:World):Ret Tp 116 #[.agg #[.int .i64 c,.int .i64 k,.int .i64 r],.int .i64 row,.int .i64 col] w (.int .i64 (roleG c k r row col)):=by
 refine ret_of (layout_Role_calls ?_)
 unfold layout_Role
 have hS:=S.start w
 have key:InG c k r row col c→IntKind.i64.wrap (IntKind.i64.wrap (col-firstG c row)+c)=col-firstG c row+c∧0≤col-firstG c row+c:=by
  intro hn
  have hc:4≤c∧c≤10:=by grind [InG,OkG]
  have hi:0≤col∧col<c:=by grind [InG]
  have h1:=firstG_bd c row hc
  rw[wrap64 (col-firstG c row) (by omega) (by omega),wrap64 _ (by omega) (by omega)]
  exact⟨rfl,by omega⟩
 repeat' (first|(refine Alloc.s (by assumption) ?_; intro _ _ _)|(refine St.s (by assumption) (by repeat constructor) (by simp) (by rfl) rfl ?_; intro _ _)|(exact S.ld (by assumption) (by repeat constructor) (by rfl))|(refine lex_s (by assumption) ?_; intro _)|(refine Ret.useS (by assumption) (in_spec _ _ _ _ _ _ _) ?_; intro _ _)|(refine Ret.useS (by assumption) (first_spec _ _ _ _ _ (by grind [InG,OkG]) (by grind [InG,OkG])) ?_; intro _ _)|(refine Join.intro fun J hJ=>?_)|(refine hJ _ _ ?_)|(refine⟨_,_,min_run _ _ _ _ _ _,?_⟩)|(refine⟨_,_,max_run _ _ _ _ _ _,?_⟩)|(refine dec_t ?_; intro _)|(refine dec_f ?_; intro _)|(refine not_t ?_)|(refine not_f ?_)|(refine beq_t ?_; intro _)|(refine beq_f ?_; intro _)|(refine bne_t ?_; intro _)|(refine bne_f ?_; intro _)|(with_reducible apply Exists.intro)|(exact rfl)|(exact S.ext (by assumption))|(show(_:Int)≤_; omega)|(show(_:Int)<_; omega)|(show(_:Int)≠_; omega)|(with_reducible apply And.intro)|(intro _)|(assumption))
 ·have hn:¬InG c k r row col c:=by assumption
  simp only[roleG,if_neg hn]
 ·grind [InG,OkG]
 all_goals
  have hn:InG c k r row col c:=by assumption
  have hc:4≤c∧c≤10:=by grind [InG,OkG]
  obtain⟨k1,k2⟩:=key hn
  rename_i hz
  rw[k1,tmod_nn k2]at hz
  have h2:=mod_bd (col-firstG c row+c) (c:=c) (by omega)
  simp only[roleG,if_pos hn]
 ·rw[wrap64 _ (by omega) (by omega),if_pos hz]
 ·rw[k1,tmod_nn k2,wrap64 _ (by omega) (by omega),if_neg hz]
theorem need_spec (c k r:Int) (w:World):Ret Tp 134 #[.agg #[.int .i64 c,.int .i64 k,.int .i64 r]] w (.int .i64 (needG c k r)):=by
 refine ret_of (layout_Need_calls ?_)
 unfold layout_Need
 have hS:=S.start w
 repeat' (first|(refine Alloc.s (by assumption) ?_; intro _ _ _)|(refine St.s (by assumption) (by repeat constructor) (by simp) (by rfl) rfl ?_; intro _ _)|(exact S.ld (by assumption) (by repeat constructor) (by rfl))|(refine lex_s (by assumption) ?_; intro _)|(refine Ret.useS (by assumption) (good_spec _ _ _ _) ?_; intro _ _)|(refine Join.intro fun J hJ=>?_)|(refine hJ _ _ ?_)|(refine⟨_,_,min_run _ _ _ _ _ _,?_⟩)|(refine⟨_,_,max_run _ _ _ _ _ _,?_⟩)|(refine dec_t ?_; intro _)|(refine dec_f ?_; intro _)|(refine not_t ?_)|(refine not_f ?_)|(refine beq_t ?_; intro _)|(refine beq_f ?_; intro _)|(refine bne_t ?_; intro _)|(refine bne_f ?_; intro _)|(with_reducible apply Exists.intro)|(exact rfl)|(exact S.ext (by assumption))|(show(_:Int)≤_; omega)|(show(_:Int)<_; omega)|(show(_:Int)≠_; omega)|(with_reducible apply And.intro)|(intro _)|(assumption))
 ·have hn:OkG c k r:=by assumption
  have h1:=rk_bd hn
  simp only[needG,if_pos hn]
  rw[wrap64 (r*k) (by omega) (by omega),wrap64 _ (by omega) (by omega)]
 ·have hn:¬OkG c k r:=by assumption
  simp only[needG,if_neg hn]
theorem mul_bd {a b A B:Int}(h0:0≤a) (h1:a≤A) (h2:0≤b) (h3:b≤B):0≤a*b∧a*b≤A*B:=
 ⟨Int.mul_nonneg h0 h2,Int.mul_le_mul h1 h3 h2 (by omega)⟩
def sectorG (c k r row off:Int):Int:=if InG c k r row off k then 4+k*row+off else 0
theorem eqG_run (a b c a' b' c':Int) (x y:Operand) (w:World):
  (do eqGuard .eql 26 x y (.agg #[.int .i64 a,.int .i64 b,.int .i64 c]) (.agg #[.int .i64 a',.int .i64 b',.int .i64 c']); binOp .eql 26 (.agg #[.int .i64 a,.int .i64 b,.int .i64 c]) (.agg #[.int .i64 a',.int .i64 b',.int .i64 c']):Sem Value).run Tp w
   =.ok (.bool (a==a'&&(b==b'&&c==c'))) w:=by
 have h1:Tp.eqGuardType Tp.depth 26=false:=by kernel_rfl
 have h2:(eqGuard .eql 26 x y (.agg #[.int .i64 a,.int .i64 b,.int .i64 c]) (.agg #[.int .i64 a',.int .i64 b',.int .i64 c'])).run Tp w=.ok () w:=by
  simp[eqGuard,program,Sem.run,h1]
 have h3:Tp.stoodInHeld 26=false:=by kernel_rfl
 have h4:Tp.underlying 3=some (.int .i64):=by kernel_rfl
 have hu:Tp.underlying 26=some (.struct (Tp.fieldsOf 26)):=by kernel_rfl
 have hf : (Tp.fieldsOf 26).toList = [⟨"Cols", 3, 0, false, "", "", 0⟩, ⟨"Chunk", 3, 1, false, "", "", 8⟩, ⟨"Rows", 3, 2, false, "", "", 16⟩] := by kernel_rfl
 have h5:(binOp .eql 26 (.agg #[.int .i64 a,.int .i64 b,.int .i64 c]) (.agg #[.int .i64 a',.int .i64 b',.int .i64 c'])).run Tp w=.ok (.bool (a==a'&&(b==b'&&c==c'))) w:=by
  rw[run_eql_struct]
  have:=run_equalIn_agg (P:=Tp) (w:=w) 9999 26 #[.int .i64 a,.int .i64 b,.int .i64 c] #[.int .i64 a',.int .i64 b',.int .i64 c'] hu h3
  rw[this,hf]
  have hi:∀(a b:Int) (w:World),(Op.equalIn 9999 3 (.int .i64 a) (.int .i64 b)).run Tp w=.ok (a==b) w:=fun a b w=>run_equalIn_int w 9998 3 .i64 .i64 a b h4
  by_cases h1:a=a'<;>by_cases h2:b=b'<;>by_cases h6:c=c'<;>simp[Op.eqFields,part,isAgg,underlying_run h4,hi,h1,h2,h6]
 simp[h2,h5]
theorem sector_spec (c k r row off:Int) (w:World):Ret Tp 67 #[.agg #[.int .i64 c,.int .i64 k,.int .i64 r],.int .i64 row,.int .i64 off] w (.int .i64 (sectorG c k r row off)):=by
 refine ret_of (layout_Sector_calls ?_)
 unfold layout_Sector
 have hS:=S.start w
 refine Alloc.s hS fun b w1 hS1=>⟨_,_,_,⟨hS1.ld (by repeat constructor) rfl,hS1.ld (by repeat constructor) rfl,hS1.ld (by repeat constructor) rfl⟩,?_⟩
 refine Alloc.s hS1 fun b2 w2 hS2=>?_
 refine St.s hS2 (by repeat constructor) (by simp) (by rfl) rfl fun w3 hS3=>St.s hS3 (by repeat constructor) (by simp) (by rfl) rfl fun w4 hS4=>St.s hS4 (by repeat constructor) (by simp) (by rfl) rfl fun w5 hS5=>?_
 refine⟨_,_,_,⟨hS5.ld (by repeat constructor) rfl,hS5.ld (by repeat constructor) rfl,hS5.ld (by repeat constructor) rfl⟩,_,_,eqG_run _ _ _ _ _ _ _ _ _,?_⟩
 repeat' (first|(refine Alloc.s (by assumption) ?_; intro _ _ _)|(refine St.s (by assumption) (by repeat constructor) (by simp) (by rfl) rfl ?_; intro _ _)|(exact S.ld (by assumption) (by repeat constructor) (by rfl))|(refine lex_s (by assumption) ?_; intro _)|(refine Ret.useS (by assumption) (in_spec _ _ _ _ _ _ _) ?_; intro _ _)|(refine Join.intro fun J hJ=>?_)|(refine hJ _ _ ?_)|(refine⟨_,_,min_run _ _ _ _ _ _,?_⟩)|(refine⟨_,_,max_run _ _ _ _ _ _,?_⟩)|(refine dec_t ?_; intro _)|(refine dec_f ?_; intro _)|(refine not_t ?_)|(refine not_f ?_)|(refine beq_t ?_; intro _)|(refine beq_f ?_; intro _)|(refine bne_t ?_; intro _)|(refine bne_f ?_; intro _)|(with_reducible apply Exists.intro)|(exact rfl)|(exact S.ext (by assumption))|(show(_:Int)≤_; omega)|(show(_:Int)<_; omega)|(show(_:Int)≠_; omega)|(with_reducible apply And.intro)|(intro _)|(assumption))
 ·rename_i hz
  have hn:¬InG c k r row off k:=by simp at hz; grind [InG,OkG]
  simp only[sectorG,if_neg hn]
 ·have hn:¬InG c k r row off k:=by assumption
  simp only[sectorG,if_neg hn]
 ·have hn:InG c k r row off k:=by assumption
  have h1:=mul_bd (a:=k) (b:=row) (A:=4) (B:=256) (by grind [InG,OkG]) (by grind [InG,OkG]) (by grind [InG]) (by grind [InG,OkG])
  have h2:0≤off∧off<4:=by grind [InG,OkG]
  simp only[sectorG,if_pos hn]
  rw[wrap64 (k*row) (by omega) (by omega),wrap64 (4+k*row) (by omega) (by omega),wrap64 _ (by omega) (by omega)]
end Go.Proofs.YtkknkmplmilihaaGreat
end
section
namespace Go.Sh
def xtn (x:Nat):Nat:=if 2*x>255 then Nat.xor (2*x) 285 else 2*x
def expN:Nat→Nat
 |0=>1
 |i+1=>xtn (expN i)
def logF:Nat→Nat→Nat
 |0,_=>0
 |i+1,x=>if expN i=x then i else logF i x
def expFrom (x:Nat):Nat→List Nat
 |0=>[]
 |n+1=>x::expFrom (xtn x) n
def itN (x:Nat):Nat→Nat
 |0=>x
 |i+1=>xtn (itN x i)
theorem itN_one:∀i,itN 1 i=expN i
 |0=>rfl
 |i+1=>by simp only[itN,expN,itN_one i]
theorem itN_shift (x:Nat):∀i,itN (xtn x) i=itN x (i+1)
 |0=>rfl
 |i+1=>by simp only[itN]; rw[itN_shift x i]; rfl
theorem mem_expFrom:∀(n x y:Nat),y∈expFrom x n→∃k,k<n∧y=itN x k
 |0,x,y,h=>by simp[expFrom]at h
 |n+1,x,y,h=>by
  simp only[expFrom,List.mem_cons]at h
  rcases h with rfl|h
  ·exact⟨0,by omega,rfl⟩
  ·obtain⟨k,hk,e⟩:=mem_expFrom n (xtn x) y h
   exact⟨k+1,by omega,by rw[e,itN_shift]⟩
theorem all_powers:((List.range 256).all fun x=>x==0||(expFrom 1 255).contains x)=true:=by decide +kernel
theorem is_power {x:Nat}(h0:x≠0) (h:x<256):∃k,k<255∧expN k=x:=by
 have:=List.all_eq_true.1 all_powers x (List.mem_range.2 h)
 simp only[Bool.or_eq_true,beq_iff_eq,List.contains_iff_mem]at this
 rcases this with e|e
 ·exact absurd e h0
 ·obtain⟨k,hk,e⟩:=mem_expFrom _ _ _ e
  exact⟨k,hk,by rw[e,itN_one]⟩
theorem logF_lt:∀{i:Nat},0<i→∀x,logF i x<i
 |i+1,_,x=>by
  simp only[logF]
  split
  ·omega
  ·cases i with
   |zero=>simp[logF]
   |succ j=>have:=logF_lt (i:=j+1) (by omega) x; omega
theorem logF_exp:∀{i k x:Nat},k<i→expN k=x→expN (logF i x)=x
 |i+1,k,x,hk,e=>by
  simp only[logF]
  split
  ·assumption
  ·rename_i hne
   have:k≠i:=fun h=>hne (h▸e)
   exact logF_exp (by omega) e
theorem xtn_lt {x:Nat}(h:x<256):xtn x<256:=by
 unfold xtn
 split
 ·have:((List.range 256).all fun x=>decide (2*x>255)==false||decide (Nat.xor (2*x) 285<256))=true:=by decide +kernel
  have:=List.all_eq_true.1 this x (List.mem_range.2 h)
  simp only[Bool.or_eq_true,beq_iff_eq,decide_eq_false_iff_not,decide_eq_true_eq]at this
  omega
 ·omega
theorem expN_lt:∀i,expN i<256
 |0=>by simp[expN]
 |i+1=>xtn_lt (expN_lt i)
def xt (x:UInt8):UInt8:=UInt8.ofNat (xtn x.toNat)
theorem xt_toNat (x:UInt8):(xt x).toNat=xtn x.toNat:=by
 unfold xt
 rw[UInt8.toNat_ofNat']
 exact Nat.mod_eq_of_lt (xtn_lt x.toNat_lt)
def xtB (x:BitVec 8):BitVec 8:=(x <<< 1)^^^(if x.msb then 29#8 else 0#8)
theorem xt_bits (x:UInt8):(xt x).toBitVec=xtB x.toBitVec:=by
 have h:∀n:_root_.Fin 256,(xt (UInt8.ofNat n.1)).toBitVec=xtB (UInt8.ofNat n.1).toBitVec:=by decide +kernel
 have:=h ⟨x.toNat,x.toNat_lt⟩
 simpa using this
theorem xtB_xor (x y:BitVec 8):xtB (x^^^y)=xtB x^^^xtB y:=by
 unfold xtB
 rw[BitVec.shiftLeft_xor_distrib,BitVec.msb_xor]
 have e1:∀a b c d:BitVec 8,(a^^^b)^^^(c^^^d)=(a^^^c)^^^(b^^^d):=fun a b c d=>by ac_rfl
 rw[e1 (x <<< 1)]
 congr 1
 cases x.msb<;>cases y.msb<;>rfl
theorem xt_xor (x y:UInt8):xt (x^^^y)=xt x^^^xt y:=by
 apply UInt8.toBitVec_inj.1
 rw[UInt8.toBitVec_xor,xt_bits,xt_bits,xt_bits,UInt8.toBitVec_xor,xtB_xor]
def xp:Nat→UInt8→UInt8
 |0,x=>x
 |k+1,x=>xt (xp k x)
theorem xp_add:∀(j k:Nat) (x:UInt8),xp (j+k) x=xp j (xp k x)
 |0,k,x=>by rw[Nat.zero_add]; rfl
 |j+1,k,x=>by rw[Nat.succ_add]; simp only[xp]; rw[xp_add j k x]
theorem xp_comm (j k:Nat) (x:UInt8):xp j (xp k x)=xp k (xp j x):=by rw[←xp_add,Nat.add_comm,xp_add]
theorem xp_xor:∀(k:Nat) (x y:UInt8),xp k (x^^^y)=xp k x^^^xp k y
 |0,_,_=>rfl
 |k+1,x,y=>by simp only[xp]; rw[xp_xor k,xt_xor]
theorem xp_zero:∀k,xp k 0=0
 |0=>rfl
 |k+1=>by simp only[xp]; rw[xp_zero k]; rfl
def ex (k:Nat):UInt8:=xp k 1
theorem ex_toNat:∀k,(ex k).toNat=expN k
 |0=>rfl
 |k+1=>by show(xt (xp k 1)).toNat=_; rw[xt_toNat]; show xtn (ex k).toNat=_; rw[ex_toNat k]; rfl
theorem ex_255:ex 255=1:=by
 apply UInt8.toNat_inj.1
 rw[ex_toNat]
 decide +kernel
def lg (x:UInt8):Nat:=logF 255 x.toNat
theorem lg_lt (x:UInt8):lg x<255:=logF_lt (by omega) _
theorem ex_lg {x:UInt8}(h:x≠0):ex (lg x)=x:=by
 apply UInt8.toNat_inj.1
 rw[ex_toNat]
 obtain⟨k,hk,e⟩:=is_power (x:=x.toNat) (fun e=>h (UInt8.toNat_inj.1 e)) x.toNat_lt
 exact logF_exp hk e
theorem xp_255 (x:UInt8):xp 255 x=x:=by
 by_cases h:x=0
 ·rw[h,xp_zero]
 ·rw[←ex_lg h]
  unfold ex
  rw[xp_comm]
  exact congrArg (xp (lg x)) ex_255
theorem xp_inj {k:Nat}{x y:UInt8}(h:xp k x=xp k y):x=y:=by
 have h2:∀z:UInt8,∀m,xp (m*255) z=z:=fun z m=>by
  induction m with
  |zero=>rw[Nat.zero_mul]; rfl
  |succ m ih=>rw[Nat.succ_mul,xp_add,xp_255,ih]
 have h3:∀z,xp (k*254) (xp k z)=z:=fun z=>by
  rw[←xp_add,show k*254+k=k*255 by omega]; exact h2 z k
 rw[←h3 x,←h3 y,h]
theorem xp_ne {k:Nat}{x:UInt8}(h:x≠0):xp k x≠0:=fun e=>h (xp_inj (k:=k) (by rw[e,xp_zero]))
theorem xp_round (k:Nat) (x:UInt8):xp (k+255) x=xp k x:=by rw[xp_add,xp_255]
theorem ex_round (k:Nat):ex (k+255)=ex k:=xp_round k 1
theorem expN_round (k:Nat):expN (k+255)=expN k:=by rw[←ex_toNat,←ex_toNat,ex_round]
def mulG (a b:UInt8):UInt8:=if a=0∨b=0 then 0 else ex (lg a+lg b)
theorem mulG_comm (a b:UInt8):mulG a b=mulG b a:=by
 unfold mulG
 rw[Nat.add_comm]
 by_cases h:a=0∨b=0
 ·rw[if_pos h,if_pos (or_comm.1 h)]
 ·rw[if_neg h,if_neg (fun h'=>h (or_comm.1 h'))]
theorem mulG_xp (a:UInt8){b:UInt8}(hb:b≠0):mulG a b=xp (lg b) a:=by
 unfold mulG
 by_cases ha:a=0
 ·rw[if_pos (.inl ha),ha,xp_zero]
 ·rw[if_neg (by simp[ha,hb]),Nat.add_comm]
  unfold ex
  rw[xp_add]
  exact congrArg (xp (lg b)) (ex_lg ha)
theorem mulG_zero (a:UInt8):mulG a 0=0:=if_pos (.inr rfl)
theorem zero_mulG (a:UInt8):mulG 0 a=0:=if_pos (.inl rfl)
theorem mulG_xor (a b c:UInt8):mulG (a^^^b) c=mulG a c^^^mulG b c:=by
 by_cases hc:c=0
 ·rw[hc,mulG_zero,mulG_zero,mulG_zero]; rfl
 ·rw[mulG_xp _ hc,mulG_xp _ hc,mulG_xp _ hc,xp_xor]
theorem mulG_xor' (a b c:UInt8):mulG c (a^^^b)=mulG c a^^^mulG c b:=by rw[mulG_comm,mulG_xor,mulG_comm,mulG_comm b]
theorem one_ne:(1:UInt8)≠0:=by decide
theorem ex_ne (k:Nat):ex k≠0:=xp_ne one_ne
theorem mulG_ex (a:UInt8) (k:Nat):mulG a (ex k)=xp k a:=by
 by_cases ha:a=0
 ·rw[ha,zero_mulG,xp_zero]
 ·rw[mulG_comm,mulG_xp _ ha]
  unfold ex
  rw[xp_comm]
  exact congrArg (xp k) (ex_lg ha)
theorem mulG_inj {a b c:UInt8}(hc:c≠0) (h:mulG a c=mulG b c):a=b:=by
 rw[mulG_xp _ hc,mulG_xp _ hc]at h
 exact xp_inj h
def invG (a:UInt8):UInt8:=ex (255-lg a)
theorem mulG_inv {s:UInt8}(hs:s≠0) (x:UInt8):mulG (mulG x s) (invG s)=x:=by
 unfold invG
 rw[mulG_ex,mulG_xp _ hs,←xp_add,show 255-lg s+lg s=255 by have:=lg_lt s; omega,xp_255]
theorem ex_inj {i k:Nat}(hi:i<255) (hk:k<255) (h:ex i=ex k):i=k:=by
 have hnd:(expFrom 1 255).Nodup:=by decide +kernel
 have hl:∀(n x j:Nat),j<n→(expFrom x n)[j]?=some (itN x j):=by
  intro n
  induction n with
  |zero=>intro x j h; omega
  |succ n ih=>
   intro x j h
   cases j with
   |zero=>rfl
   |succ j=>simp only[expFrom,List.getElem?_cons_succ]; rw[ih (xtn x) j (by omega),itN_shift]
 have e:itN 1 i=itN 1 k:=by rw[itN_one,itN_one,←ex_toNat,←ex_toNat,h]
 have h1:=hl 255 1 i hi
 have h2:=hl 255 1 k hk
 rw[e,←h2]at h1
 exact(List.getElem?_inj (by
  have:=(List.getElem?_eq_some_iff.1 (hl 255 1 i hi)).1
  exact this) hnd).1 h1
theorem ex_sum_ne {i k:Nat}(hi:i<255) (hk:k<255) (h:i≠k):ex i^^^ex k≠0:=fun e=>h (ex_inj hi hk (UInt8.xor_eq_zero_iff.1 e))
end Go.Sh
end
section
namespace Go.Proofs.YtkknkmplmilihaaGreat
open Go.Proofs
theorem on_disable (w:World):(callFunc 273 #[]).run Tryz.prog w=.ok (.value (.tuple #[])) w:=run_call_mark0 Tryz.func273 (by kernel_rfl) (by kernel_rfl) (by kernel_rfl) .disable (by kernel_rfl) w
theorem on_enable (w:World):(callFunc 275 #[]).run Tryz.prog w=.ok (.value (.tuple #[])) w:=run_call_mark0 Tryz.func275 (by kernel_rfl) (by kernel_rfl) (by kernel_rfl) .enable (by kernel_rfl) w
theorem on_acquire (a:Addr) (w:World):(callFunc 276 #[.pointer (some a)]).run Tryz.prog w=.ok (.value (.tuple #[])) w:=run_call_marked Tryz.func276 (by kernel_rfl) (by kernel_rfl) (by kernel_rfl) .acquire (by kernel_rfl) a w
theorem on_release (a:Addr) (w:World):(callFunc 278 #[.pointer (some a)]).run Tryz.prog w=.ok (.value (.tuple #[])) w:=run_call_marked Tryz.func278 (by kernel_rfl) (by kernel_rfl) (by kernel_rfl) .releaseMerge (by kernel_rfl) a w
theorem on_store (a:Addr) (x:Value) (u:FrameMode) (w:World) (hc:w.cell? a=some x) (hz:w.frozen? a=false):
  CallsD Tryz.prog 267 #[.pointer (some a),.bool true] u w fun e u' w'=>u'=u∧(e=.returned (.tuple #[])∧w'=w.drew.setCell a (.int .u32 1)):=by
 have hc':w.drew.cell? a=some x:=by go_simp
 have hz':w.drew.frozen? a=false:=by go_simp
 have hst:=run_call_store (P:=Tryz.prog) Tryz.func271 (by kernel_rfl) (by kernel_rfl) (by kernel_rfl) (by kernel_rfl) (k:=.u32) (y:=1) hc' hz'
 go_enter_d Tryz.func267,Tryz.ntmps267
 go_wp2
 go_region_calls
 all_goals (go_end0; exact⟨rfl,rfl⟩)
theorem on_unlock (a:Addr) (u:FrameMode) (w:World) (hc:w.cell? a=some (.int .i32 1)) (hz:w.frozen? a=false):
  CallsD Tryz.prog 266 #[.pointer (some a)] u w fun e u' w'=>u'=u∧(e=.returned (.tuple #[])∧w'=w.setCell a (.int .i32 0)):=by
 have hd:=on_disable
 have he:=on_enable
 have hr:=on_release
 have hadd:=run_call_add (P:=Tryz.prog) Tryz.func268 (by kernel_rfl) (by kernel_rfl) (by kernel_rfl) .i32 (by kernel_rfl) (y:=-1) (s:=0) hc hz (by simp[go_sem]; rfl)
 have hcv:=run_convert_to_unsafe (P:=Tryz.prog) (src:=340) (dst:=314) Tryz.underlying340 Tryz.underlying314 (by kernel_rfl) hc
 go_enter_d Tryz.func266,Tryz.ntmps266
 go_wp2
 go_end0
 go_wp2
 go_end0
 exact⟨rfl,rfl⟩
theorem on_lock (a:Addr) (w:World) (hc:w.cell? a=some (.int .i32 0)) (hz:w.frozen? a=false):
  Calls Tryz.prog 265 #[.pointer (some a)] w fun e w'=>e=.returned (.tuple #[])∧w'=w.setCell a (.int .i32 1):=by
 have hd:=on_disable
 have he:=on_enable
 have ha:=on_acquire
 have hcas:=run_call_cas_hit (P:=Tryz.prog) Tryz.func274 (by kernel_rfl) (by kernel_rfl) (by kernel_rfl) .i32 (by kernel_rfl) (y:=1) hc hz
 have hc':(w.setCell a (.int .i32 1)).cell? a=some (.int .i32 1):=World.cell?_setCell_same w a _ hc
 have hcv:=run_convert_to_unsafe (P:=Tryz.prog) (src:=340) (dst:=314) Tryz.underlying340 Tryz.underlying314 (by kernel_rfl) hc'
 go_enter Tryz.func265,Tryz.ntmps265
 go_wp2
 first|go_end0|(simp only[Exit.inBlock,Exit.then]; refine bodyPost_ret (results_none rfl _ _ _) rfl ?_)|refine bodyPost_ret (results_none rfl _ _ _) rfl ?_
 go_wp2
 go_end0
 exact⟨rfl,rfl⟩
theorem on_add (a:Addr) (w:World) (hc:w.cell? a=some (.int .i32 0)) (hz:w.frozen? a=false):
  Calls Tryz.prog 263 #[.pointer (some a),.int .i32 1] w fun e w'=>e=.returned (.int .i32 1)∧w'=w.setCell a (.int .i32 1):=by
 have hadd:=run_call_add (P:=Tryz.prog) Tryz.func268 (by kernel_rfl) (by kernel_rfl) (by kernel_rfl) .i32 (by kernel_rfl) (y:=1) (s:=1) hc hz (by simp[go_sem]; rfl)
 go_enter Tryz.func263,Tryz.ntmps263
 go_wp2
 all_goals (go_ret; exact⟨rfl,rfl⟩)
theorem on_load (a:Addr) (n:Int) (w:World) (hc:w.cell? a=some (.int .i32 n)):
  Calls Tryz.prog 221 #[.pointer (some a)] w fun e w'=>e=.returned (.int .i32 n)∧w'=w:=by
 have hl:=run_call_load (P:=Tryz.prog) Tryz.func249 (by kernel_rfl) (by kernel_rfl) (by kernel_rfl) .i32 (by kernel_rfl) hc
 go_enter Tryz.func221,Tryz.ntmps221
 go_wp2
 all_goals (go_ret; exact⟨rfl,rfl⟩)
theorem on_slow (b off:Nat) (p:Addr) (w:World) (Q:World→Prop)
  (h0:w.cell? ⟨b,off,none⟩=some (.int .u32 0)) (h1:w.cell? ⟨b,off+1,none⟩=some (.int .i32 0))
  (f1:w.frozen? ⟨b,off+1,none⟩=false)
  (hm:Calls Tryz.prog 257 #[.pointer (some p)] (w.setCell ⟨b,off+1,none⟩ (.int .i32 1)) fun e w'=>e=.returned (.tuple #[])∧Q w')
  (hq0:∀w',Q w'→w'.cell? ⟨b,off,none⟩=some (.int .u32 0)) (hq1:∀w',Q w'→w'.cell? ⟨b,off+1,none⟩=some (.int .i32 1))
  (hf0:∀w',Q w'→w'.frozen? ⟨b,off,none⟩=false) (hf1:∀w',Q w'→w'.frozen? ⟨b,off+1,none⟩=false):
  Calls Tryz.prog 262 #[.pointer (some ⟨b,off,none⟩),.func (.func 257) #[.pointer (some p)] #[]] w fun e w''=>e=.returned (.tuple #[])∧
   ∃w',Q w'∧w''=(w'.drew.setCell ⟨b,off,none⟩ (.int .u32 1)).setCell ⟨b,off+1,none⟩ (.int .i32 0):=by
 have hl:=run_call_load (P:=Tryz.prog) Tryz.func264 (by kernel_rfl) (by kernel_rfl) (by kernel_rfl) .u32 (by kernel_rfl) (w:=w.setCell ⟨b,off+1,none⟩ (.int .i32 1)) (a:=⟨b,off,none⟩) (x:=0) ((World.cell?_setCell_other _ ⟨b,off+1,none⟩ ⟨b,off,none⟩ _ (by simp)).trans h0)
 have hnot:∀(x:Bool) (w:World),(Op.unary .not (.bool x)).run Tryz.prog w=.ok (.bool (!x)) w:=fun _ _=>rfl
 go_enter_defers Tryz.func262,Tryz.ntmps262
 go_wp2_with (first|(go_at_call 265; refine(on_lock ⟨b,off+1,none⟩ _ (by go_simp) (by go_simp)).mono ?_; rintro e w' ⟨rfl,rfl⟩)|(go_at_call 257; refine hm.mono ?_; rintro e w' ⟨rfl,hq⟩)|(go_at_call 261; go_in))
 go_wp2
 refine leaves_cons (f:=267) (args:=#[.pointer (some ⟨b,off,none⟩),.bool true]) (by simp) (by simp[go_sem]) ?_
 refine(on_store ⟨b,off,none⟩ (.int .u32 0) .returning _ (hq0 _ hq) (hf0 _ hq)).mono ?_
 rintro e u' w'' ⟨rfl,rfl,rfl⟩
 refine leaves_cons (f:=266) (args:=#[.pointer (some ⟨b,off+1,none⟩)]) (by simp[settle]) (by simp[go_sem]) ?_
 refine(on_unlock ⟨b,off+1,none⟩ _ _ ?_ (by simp[hf1 _ hq])).mono ?_
 ·refine(World.cell?_setCell_other _ ⟨b,off,none⟩ ⟨b,off+1,none⟩ _ (by simp)).trans ?_
  rw[World.cell?_drew]
  exact hq1 _ hq
 rintro e u' w'' ⟨rfl,rfl,rfl⟩
 simp[Leaves,settle,results,Tryz.results262]
 exact⟨_,hq,rfl⟩
theorem on_do (b off:Nat) (p:Addr) (w:World) (Q:World→Prop)
  (h0:w.cell? ⟨b,off,none⟩=some (.int .u32 0)) (h1:w.cell? ⟨b,off+1,none⟩=some (.int .i32 0))
  (f1:w.frozen? ⟨b,off+1,none⟩=false)
  (hm:Calls Tryz.prog 257 #[.pointer (some p)] (w.setCell ⟨b,off+1,none⟩ (.int .i32 1)) fun e w'=>e=.returned (.tuple #[])∧Q w')
  (hq0:∀w',Q w'→w'.cell? ⟨b,off,none⟩=some (.int .u32 0)) (hq1:∀w',Q w'→w'.cell? ⟨b,off+1,none⟩=some (.int .i32 1))
  (hf0:∀w',Q w'→w'.frozen? ⟨b,off,none⟩=false) (hf1:∀w',Q w'→w'.frozen? ⟨b,off+1,none⟩=false):
  Calls Tryz.prog 256 #[.pointer (some ⟨b,off,none⟩),.func (.func 257) #[.pointer (some p)] #[]] w fun e w''=>e=.returned (.tuple #[])∧
   ∃w',Q w'∧w''=(w'.drew.setCell ⟨b,off,none⟩ (.int .u32 1)).setCell ⟨b,off+1,none⟩ (.int .i32 0):=by
 have hl:=run_call_load (P:=Tryz.prog) Tryz.func264 (by kernel_rfl) (by kernel_rfl) (by kernel_rfl) .u32 (by kernel_rfl) h0
 have hnot:∀(x:Bool) (w:World),(Op.unary .not (.bool x)).run Tryz.prog w=.ok (.bool (!x)) w:=fun _ _=>rfl
 go_enter Tryz.func256,Tryz.ntmps256
 go_wp2_with (first|(go_at_call 262; refine(on_slow b off p _ Q h0 h1 f1 hm hq0 hq1 hf0 hf1).mono ?_; rintro e w'' ⟨rfl,w',hq,rfl⟩)|(go_at_call 261; go_in))
 go_end0
 exact⟨rfl,_,hq,rfl⟩
end Go.Proofs.YtkknkmplmilihaaGreat
end
section
namespace Go.Proofs.YtkknkmplmilihaaGreat
open Go.Sh Go.RowKit
def expA (i j:Nat):Nat:=if j<i then expN j else if 255≤j∧j<255+i then expN (j-255) else 0
theorem expA_succ {i:Nat}(hi:i<255) (j:Nat):expA (i+1) j=if j=i then expN i else if j=i+255 then expN i else expA i j:=by
 unfold expA
 by_cases h1:j=i
 ·subst h1; rw[if_pos (by omega),if_pos rfl]
 rw[if_neg h1]
 by_cases h2:j=i+255
 ·subst h2; rw[if_neg (by omega),if_pos (by omega),if_pos rfl,Nat.add_sub_cancel]
 rw[if_neg h2]
 by_cases h3:j<i
 ·rw[if_pos (by omega),if_pos h3]
 rw[if_neg (by omega),if_neg h3]
 by_cases h4:255≤j∧j<255+i
 ·rw[if_pos (by omega),if_pos h4]
 ·rw[if_neg (by omega),if_neg h4]
theorem expA_all {j:Nat}(hj:j<510):expA 255 j=expN j:=by
 unfold expA
 by_cases h:j<255
 ·rw[if_pos h]
 ·rw[if_neg h,if_pos (by omega)]
  have:=expN_round (j-255)
  rw[show j-255+255=j by omega]at this
  exact this.symm
def expL (i:Nat):List Value:=(List.range 510).map fun j=>.int .u8 (expA i j:Int)
def logL (i:Nat):List Value:=(List.range 256).map fun x=>.int .i64 (logF i x:Int)
def tabC (d s m:Int) (i:Nat):Array Value:=(.int .u32 d::.int .i32 s::.int .u32 0::.int .i32 m::(expL i++logL i)).toArray
theorem tabC_size (d s m:Int) (i:Nat):(tabC d s m i).size=770:=by simp[tabC,expL,logL]
theorem tab_lo (d s m:Int) (i i':Nat){k:Nat}(hk:k<4):(tabC d s m i)[k]?=(tabC d s m i')[k]?:=by
 match k,hk with
 |0,_=>rfl
 |1,_=>rfl
 |2,_=>rfl
 |3,_=>rfl
theorem tab_exp (d s m:Int) (i:Nat){j:Nat}(hj:j<510):(tabC d s m i)[4+j]?=some (.int .u8 (expA i j:Int)):=by
 unfold tabC
 rw[List.getElem?_toArray,show 4+j=j+1+1+1+1 by omega]
 simp only[List.getElem?_cons_succ]
 rw[List.getElem?_append_left (by simp[expL]; exact hj)]
 simp[expL,hj]
theorem tab_log (d s m:Int) (i:Nat){x:Nat}(hx:x<256):(tabC d s m i)[514+x]?=some (.int .i64 (logF i x:Int)):=by
 unfold tabC
 rw[List.getElem?_toArray,show 514+x=(510+x)+1+1+1+1 by omega]
 simp only[List.getElem?_cons_succ]
 rw[List.getElem?_append_right (by simp[expL])]
 simp[expL,logL,hx]
theorem tab_step (d s m:Int){i:Nat}(hi:i<255):
  (((tabC d s m i).setIfInBounds (4+i) (.int .u8 (expN i:Int))).setIfInBounds (4+(i+255)) (.int .u8 (expN i:Int))).setIfInBounds (514+expN i) (.int .i64 (i:Int))=tabC d s m (i+1):=by
 have hx:=expN_lt i
 apply Array.ext_getElem?
 intro k
 simp only[Array.getElem?_setIfInBounds,Array.size_setIfInBounds,tabC_size]
 by_cases h1:k<4
 ·rw[if_neg (by omega),if_neg (by omega),if_neg (by omega)]
  exact tab_lo d s m i (i+1) h1
 by_cases h2:k<514
 ·obtain⟨j,rfl⟩:∃j,k=4+j:=⟨k-4,by omega⟩
  rw[if_neg (by omega),tab_exp d s m (i+1) (by omega),expA_succ hi,tab_exp d s m i (by omega)]
  by_cases e1:j=i
  ·subst e1
   rw[if_neg (by omega),if_pos rfl,if_pos (by omega),if_pos rfl]
  rw[if_neg e1]
  by_cases e2:j=i+255
  ·subst e2
   rw[if_pos rfl,if_pos (by omega),if_pos rfl]
  rw[if_neg e2,if_neg (by omega),if_neg (by omega)]
 by_cases h3:k<770
 ·obtain⟨x,rfl⟩:∃x,k=514+x:=⟨k-514,by omega⟩
  rw[tab_log d s m (i+1) (by omega)]
  by_cases e1:x=expN i
  ·subst e1
   rw[if_pos rfl,if_pos (by omega)]
   simp[logF]
  ·rw[if_neg (by omega),if_neg (by omega),if_neg (by omega),tab_log d s m i (by omega)]
   simp only[logF]
   rw[if_neg (fun e=>e1 e.symm)]
 ·rw[if_neg (by omega),if_neg (by omega),if_neg (by omega),Array.getElem?_eq_none (by rw[tabC_size]; omega),Array.getElem?_eq_none (by rw[tabC_size]; omega)]
theorem dbl_xor {x:Nat}(hx:x<256):bits2 .xor .i64 ((2*x:Nat):Int) 285=((Nat.xor (2*x) 285:Nat):Int):=by
 have h:∀n:Fin 256,bits2 .xor .i64 ((2*n.1:Nat):Int) 285=((Nat.xor (2*n.1) 285:Nat):Int):=by decide +kernel
 exact h ⟨x,hx⟩
theorem T.set {F:List Nat}{w0 w:World}{Γ:List A}{b i:Nat}{c:Array Value}{t:TypeId}{v:Value}(hT:T F w0 w (blk b c t::Γ)) (hi:i<c.size) (hv:scalar v=true):
  w.frozen? ⟨b,i,none⟩=false∧T F w0 (w.setCell ⟨b,i,none⟩ v) (blk b (c.setIfInBounds i v) t::Γ):=by
 have h:St ⟨b,i,none⟩ v w fun w'=>T F w0 w' (blk b (c.setIfInBounds i v) t::Γ):=St.t hT .head hi rfl hv fun w' h=>h
 exact⟨h.2.1,h.2.2.2⟩
theorem tab_made (d s m m':Int) (i:Nat):(tabC d s m i).setIfInBounds 3 (.int .i32 m')=tabC d s m' i:=by
 unfold tabC; rw[List.setIfInBounds_toArray]; rfl
theorem tab_state (d s m s':Int) (i:Nat):(tabC d s m i).setIfInBounds 1 (.int .i32 s')=tabC d s' m i:=by
 unfold tabC; rw[List.setIfInBounds_toArray]; rfl
theorem tab_done (d s m d':Int) (i:Nat):(tabC d s m i).setIfInBounds 0 (.int .u32 d')=tabC d' s m i:=by
 unfold tabC; rw[List.setIfInBounds_toArray]; rfl
theorem made_spec {F:List Nat}{w0 w:World}{Γ:List A}{b:Nat}{t:TypeId}{d s:Int}(hT:T F w0 w (blk b (tabC d s 0 0) t::Γ)):
  Calls Tp 257 #[.pointer (some ⟨b,0,none⟩)] w fun e w'=>e=.returned (.tuple #[])∧T F w0 w' (blk b (tabC d s 1 255) t::Γ):=by
 refine rq (gf_tables_make_calls ?_)
 unfold gf_tables_make
 simp only[addr_add,Nat.zero_add]
 obtain⟨hz,h1⟩:=T.set (i:=3) (v:=.int .i32 1) hT (by rw[tabC_size]; omega) rfl
 rw[tab_made]at h1
 refine⟨⟨b,0,none⟩,rfl,?_⟩
 simp only[addr_add,Nat.zero_add]
 refine(on_add ⟨b,3,none⟩ w (hT.ld List.mem_cons_self rfl) hz).mono fun e w1 ⟨he,hw⟩=>⟨1,he,?_⟩
 subst hw
 refine⟨fun vs w'=>∃i:Nat,vs=[.int .i64 (expN i:Int),.int .i64 (i:Int)]∧i≤255∧T F w0 w' (blk b (tabC d s 1 i) t::Γ),fun vs _=>match vs with|[_,.int _ i]=>(255-i).toNat|_=>0,⟨0,rfl,by omega,h1⟩,?_⟩
 rintro vs w2 ⟨i,rfl,hi,h2⟩
 refine⟨_,_,rfl,dec_t fun hlt=>?_,dec_f fun hge=>?_⟩
 ·have hlt:i<255:=by omega
  have hx:=expN_lt i
  have e8:IntKind.u8.wrap (expN i:Int)=(expN i:Int):=by rw[wrap8]; omega
  have ei:IntKind.i64.wrap ((i:Int)+255)=((i+255:Nat):Int):=by rw[wrap64 _ (by omega) (by omega)]; omega
  have e2:IntKind.i64.wrap ((expN i:Int)*2 ^ 1)=((2*expN i:Nat):Int):=by rw[wrap64 _ (by omega) (by omega)]; omega
  have e1:IntKind.i64.wrap ((i:Int)+1)=((i+1:Nat):Int):=by rw[wrap64 _ (by omega) (by omega)]; omega
  rw[e8,ei,e2,e1]
  refine⟨fun _=>True,trivial,⟨b,0,none⟩,rfl,by omega,by omega,?_⟩
  simp only[addr_add,Nat.zero_add,Int.toNat_natCast,Nat.mul_one]
  refine St.t h2.drew .head (by rw[tabC_size]; omega) rfl rfl fun w3 h3=>⟨trivial,⟨b,0,none⟩,rfl,by omega,by omega,?_⟩
  simp only[addr_add,Nat.zero_add]
  refine St.t h3 .head (by rw[Array.size_setIfInBounds,tabC_size]; omega) rfl rfl fun w4 h4=>⟨⟨b,0,none⟩,rfl,by omega,by omega,?_⟩
  simp only[addr_add,Nat.zero_add]
  refine St.t h4 .head (by rw[Array.size_setIfInBounds,Array.size_setIfInBounds,tabC_size]; omega) rfl rfl fun w5 h5=>?_
  rw[tab_step d s 1 hlt]at h5
  have hms:((255:Int)-((i+1:Nat):Int)).toNat<((255:Int)-(i:Int)).toNat:=by omega
  refine⟨fun hgt=>⟨⟨i+1,?_,by omega,h5⟩,hms⟩,fun hgt=>⟨⟨i+1,?_,by omega,h5⟩,hms⟩⟩
  ·have hgt:2*expN i>255:=by have:=of_decide_eq_true hgt; omega
   rw[dbl_xor hx]
   show _=[Value.int .i64 ((xtn (expN i):Nat):Int),_]
   unfold xtn
   rw[if_pos hgt]
  ·have hgt:¬2*expN i>255:=by have:=of_decide_eq_false hgt; omega
   show _=[Value.int .i64 ((xtn (expN i):Nat):Int),_]
   unfold xtn
   rw[if_neg hgt]
 ·have:i=255:=by omega
  subst this
  exact⟨trivial,h2⟩
theorem once_spec {F:List Nat}{w0 w:World}{Γ:List A}{b:Nat}{t:TypeId}(hT:T F w0 w (blk b (tabC 0 0 0 0) t::Γ)):
  Calls Tp 256 #[.pointer (some ⟨b,0,none⟩),.func (.func 257) #[.pointer (some ⟨b,0,none⟩)] #[]] w fun e w'=>e=.returned (.tuple #[])∧T F w0 w' (blk b (tabC 1 0 1 255) t::Γ):=by
 obtain⟨f1,h1⟩:=T.set (i:=1) (v:=.int .i32 1) hT (by rw[tabC_size]; omega) rfl
 rw[tab_state]at h1
 have fz:∀{w':World} {i:Nat},i<770→T F w0 w' (blk b (tabC 0 1 1 255) t::Γ)→w'.frozen? ⟨b,i,none⟩=false:=fun hi h=>(T.set (i:=_) (v:=.int .i32 1) h (by rw[tabC_size]; exact hi) rfl).1
 refine(on_do b 0 ⟨b,0,none⟩ w (fun w'=>T F w0 w' (blk b (tabC 0 1 1 255) t::Γ)) (hT.ld List.mem_cons_self rfl) (hT.ld (i:=1) List.mem_cons_self rfl) f1 (made_spec h1) (fun w' h=>h.ld List.mem_cons_self rfl) (fun w' h=>h.ld (i:=1) List.mem_cons_self rfl) (fun w' h=>fz (by omega) h) (fun w' h=>fz (by omega) h)).mono fun e w'' ⟨he,w',hq,hw⟩=>⟨he,?_⟩
 subst hw
 obtain⟨_,h2⟩:=T.set (i:=0) (v:=.int .u32 1) hq.drew (by rw[tabC_size]; omega) rfl
 rw[tab_done]at h2
 obtain⟨_,h3⟩:=T.set (i:=1) (v:=.int .i32 0) h2 (by rw[tabC_size]; omega) rfl
 rw[tab_state]at h3
 exact h3
abbrev tabs:Array Value:=tabC 1 0 1 255
theorem ready_spec {F:List Nat}{w0 w:World}{Γ:List A}{b:Nat}{t:TypeId}(hT:T F w0 w (blk b (tabC 0 0 0 0) t::Γ)):
  Calls Tp 235 #[.pointer (some ⟨b,0,none⟩)] w fun e w'=>e=.returned (.pointer (some ⟨b,0,none⟩))∧T F w0 w' (blk b tabs t::Γ):=by
 refine rq (gf_tables_ready_calls ?_)
 unfold gf_tables_ready
 exact⟨_,rfl,(once_spec hT).mono fun e w1 ⟨he,h1⟩=>⟨he,rfl,h1⟩⟩
theorem zero_tabs:(zc Tp 292).getD #[]=tabC 0 0 0 0:=by kernel_rfl
theorem fresh_spec {F:List Nat}{w0 w:World}{Γ:List A}(hT:T F w0 w Γ):
  Calls Tp 193 #[] w fun e w'=>∃b,e=.returned (.pointer (some ⟨b,0,none⟩))∧T F w0 w' (blk b tabs 292::Γ):=by
 refine(gf_fresh_calls (R:=fun v w'=>∃b,v=.pointer (some ⟨b,0,none⟩)∧T F w0 w' (blk b tabs 292::Γ)) ?_).mono fun e w' ⟨v,he,b,hv,h⟩=>⟨b,by rw[he,hv],h⟩
 unfold gf_fresh
 rw[zero_tabs]
 exact Alloc.t hT fun b w1 h1=>(ready_spec h1).mono fun e w2 ⟨he,h2⟩=>⟨_,he,b,rfl,h2⟩
theorem tmod255 (n:Int):Int.tmod (Int.tmod n 255+255) 255=n%255:=by
 by_cases h:0≤n
 ·rw[Int.tmod_eq_emod_of_nonneg h,Int.tmod_eq_emod_of_nonneg (by omega)]; omega
 ·obtain⟨m,rfl⟩:∃m:Int,n=-m:=⟨-n,by omega⟩
  rw[Int.neg_tmod,Int.tmod_eq_emod_of_nonneg (a:=m) (by omega),Int.tmod_eq_emod_of_nonneg (by omega)]; omega
theorem tmod255_rng (n:Int):-255<Int.tmod n 255∧Int.tmod n 255<255:=by
 by_cases h:0≤n
 ·rw[Int.tmod_eq_emod_of_nonneg h]; omega
 ·obtain⟨m,rfl⟩:∃m:Int,n=-m:=⟨-n,by omega⟩
  rw[Int.neg_tmod,Int.tmod_eq_emod_of_nonneg (a:=m) (by omega)]; omega
def exI (n:Int):UInt8:=ex (n%255).toNat
theorem power_spec {F:List Nat}{w0 w:World}{Γ:List A}{b:Nat}{t:TypeId}(hT:T F w0 w Γ) (hm:blk b tabs t∈Γ) (n:Int):
  Ret Tp 220 #[.pointer (some ⟨b,0,none⟩),.int .i64 n] w (.int .u8 ((exI n).toNat:Int)):=by
 refine ret_of (gf_tables_power_calls ?_)
 unfold gf_tables_power
 have hr:=tmod255_rng n
 rw[wrap64 _ (by omega) (by omega),tmod255]
 simp only[addr_add,Nat.zero_add,Nat.mul_one]
 refine⟨⟨b,0,none⟩,rfl,by omega,by omega,(expN (n%255).toNat:Int),?_,?_,Ext.refl w⟩
 ·simp only[addr_add,Nat.zero_add]
  have:=tab_exp 1 0 1 255 (j:=(n%255).toNat) (by omega)
  rw[expA_all (by omega)]at this
  exact hT.ld hm this
 ·unfold exI; rw[ex_toNat]
theorem mul_spec {F:List Nat}{w0 w:World}{Γ:List A}{b:Nat}{t:TypeId}(hT:T F w0 w Γ) (hm:blk b tabs t∈Γ) (x y:UInt8):
  Ret Tp 194 #[.pointer (some ⟨b,0,none⟩),.int .u8 (x.toNat:Int),.int .u8 (y.toNat:Int)] w (.int .u8 ((mulG x y).toNat:Int)):=by
 refine ret_of (gf_tables_mul_calls ?_)
 unfold gf_tables_mul
 have hx:=x.toNat_lt; have hy:=y.toNat_lt
 have z:∀u:UInt8,((u.toNat:Nat):Int)=0→u=0:=fun u h=>UInt8.toNat_inj.1 (by show u.toNat=0; omega)
 refine⟨beq_t fun h0=>⟨by rw[z x h0,zero_mulG]; rfl,Ext.refl w⟩,beq_f fun h0=>⟨beq_t fun h1=>⟨by rw[z y h1,mulG_zero]; rfl,Ext.refl w⟩,beq_f fun h1=>?_⟩⟩
 have hx0:x≠0:=fun e=>h0 (by rw[e]; rfl)
 have hy0:y≠0:=fun e=>h1 (by rw[e]; rfl)
 have lx:=lg_lt x; have ly:=lg_lt y
 have es:IntKind.i64.wrap ((lg x:Int)+(lg y:Int))=((lg x+lg y:Nat):Int):=by rw[wrap64 _ (by omega) (by omega)]; omega
 refine⟨fun w'=>T F w0 w' Γ,hT.drew,⟨b,0,none⟩,rfl,by omega,by omega,(lg x:Int),fun w' h=>?_,⟨b,0,none⟩,rfl,by omega,by omega,(lg y:Int),fun w' h=>?_,⟨b,0,none⟩,rfl,by rw[es]; omega,by rw[es]; omega,(expN (lg x+lg y):Int),fun w' h=>?_,?_,(Ext.refl w).drew⟩
 ·simp only[addr_add,Nat.zero_add,Nat.mul_one,Int.toNat_natCast]
  exact h.ld hm (tab_log 1 0 1 255 hx)
 ·simp only[addr_add,Nat.zero_add,Nat.mul_one,Int.toNat_natCast]
  exact h.ld hm (tab_log 1 0 1 255 hy)
 ·rw[es]
  simp only[addr_add,Nat.zero_add,Nat.mul_one,Int.toNat_natCast]
  have:=tab_exp 1 0 1 255 (j:=lg x+lg y) (by omega)
  rw[expA_all (by omega)]at this
  exact h.ld hm this
 ·unfold mulG
  rw[if_neg (by simp[hx0,hy0]),ex_toNat]
def rowZ (e:TypeId) (k n:Nat) (xs:List Value):A where
 foot:=[k]
 holds h:=xs.length=n∧∃(cur:Array Value) (m:Nat),h k=some (.cells cur e (m,m+1))∧n≤m∧n≤cur.size∧cur.toList.take n=xs
 loc:=by
  intro h h' he hh
  obtain⟨h1,cur,m,h2,h3⟩:=hh
  exact⟨h1,cur,m,(he k (by simp)).trans h2,h3⟩
theorem rowZ.cell {w:World}{e:TypeId}{k n i:Nat}{xs:List Value}{v:Value}(hh:(rowZ e k n xs).holds (hp w)) (hi:xs[i]?=some v):w.cell? ⟨k,i,none⟩=some v:=by
 obtain⟨h1,cur,m,h2,_,_,h3⟩:=hh
 have h2:w.heap[k]?=some (.cells cur e (m,m+1)):=h2
 rw[←h3,List.getElem?_take]at hi
 split at hi
 ·simpa[World.cell?,h2] using hi
 ·cases hi
theorem StZ.t {F:List Nat}{w0 w:World}{Γ Δ:List A}{e:TypeId}{k n i:Nat}{xs:List Value}{v:Value}{K:World→Prop}(hT:T F w0 w Γ) (hk:Pick (rowZ e k n xs) Γ Δ) (hi:i<n) (hv:scalar v=true)
  (h:∀w',T F w0 w' (rowZ e k n (xs.set i v)::Δ)→K w'):St ⟨k,i,none⟩ v w K:=by
 have hT1:=hT.pick hk
 obtain⟨h1,cur,m,h4,h5,h6,h7⟩:=hT1.says List.mem_cons_self
 have h4:w.heap[k]?=some (.cells cur e (m,m+1)):=h4
 have hb:k<w.heap.size:=lt_of_heap h4
 have hs:(w.setCell ⟨k,i,none⟩ v).heap[k]?=some (.cells (cur.setIfInBounds i v) e (m,m+1)):=by
  show(w.heap.modify k _)[k]?=_
  rw[Array.getElem?_modify,if_pos rfl,h4]
  simp
 refine⟨⟨cur[i],by simp[World.cell?,h4]⟩,by simp[World.frozen?,h4]; omega,hv,h _ (hT1.turn rfl rfl ?_ (fun c hc hn=>setBlock_other fun e=>hn (by simp[rowZ,e])) (by simp[rowZ]) ?_ ?_)⟩
 ·show w.heap.size≤(w.heap.modify k _).size
  rw[Array.size_modify]; exact Nat.le_refl _
 ·intro c hc
  obtain rfl:c=k:=by simpa[rowZ] using hc
  refine⟨?_,.inl (by simp[rowZ])⟩
  show c<(w.heap.modify c _).size
  rw[Array.size_modify]; exact hb
 ·refine⟨by simpa using h1,_,m,hs,h5,by simpa using h6,?_⟩
  rw[←h7,Array.toList_setIfInBounds,List.take_set]
theorem bytes_t {F:List Nat}{w0 w:World}{Γ:List A}(hT:T F w0 w Γ) (s:ByteArray):
  ∃k cap w',(convert 9 86 (.string s)).run Tp w=.ok (.slice (some ⟨k,0,none⟩) s.size cap) w'∧T F w0 w' (rowZ 5 k s.size (bvals s.data.toList)::Γ):=by
 refine⟨w.heap.size,_,_,Go.Lib.run_convert_string_bytes (P:=Tp) (u:=.string) w 9 86 5 s (by kernel_rfl) (by kernel_rfl) (by kernel_rfl),?_⟩
 have hx:Ext w (Go.Lib.bytesWorld w 5 s):=⟨rfl,rfl,by rw[Go.Lib.bytesWorld_size]; omega,fun b hb=>Go.Lib.bytesWorld_at_old w 5 s b hb⟩
 have hT1:=hT.quiet hx
 have hl:s.data.toList.length=s.size:=Array.length_toList
 have hz:(Go.Lib.bytesCells w 5 s).toList.take s.size=bvals s.data.toList:=by
  unfold Go.Lib.bytesCells
  rw[Array.toList_append,List.take_left' (by simp)]
  simp[bvals]
 refine⟨hT1.chg,?_,?_,?_⟩
 ·show(w.heap.size::feet Γ).Nodup
  exact List.nodup_cons.2 ⟨fun hm=>by have:=(hT.own _ hm).1; omega,hT.nodup⟩
 ·intro b hb
  rcases List.mem_cons.1 hb with rfl|hb
  ·exact⟨by rw[Go.Lib.bytesWorld_size]; omega,.inr hT.chg.size⟩
  ·exact hT1.own b hb
 ·intro a ha
  rcases List.mem_cons.1 ha with rfl|ha
  ·refine⟨by simp[bvals_len,hl],_,_,Go.Lib.bytesWorld_at_new w 5 s,?_,?_,hz⟩
   ·unfold Go.Lib.bytesCells; rw[Array.size_append,Array.size_map]; exact Nat.le_add_right _ _
   ·unfold Go.Lib.bytesCells; rw[Array.size_append,Array.size_map]; exact Nat.le_add_right _ _
  ·exact hT1.holds a ha
theorem row_stringZ {F:List Nat}{w0 w:World}{Γ:List A}{k n cap:Nat}{l:List UInt8}(hT:T F w0 w Γ) (hm:rowZ 5 k n (bvals l)∈Γ):(convert 86 9 (.slice (some ⟨k,0,none⟩) n cap)).run Tp w=.ok (.string (strB l)) w:=by
 have hs:=hT.says hm
 have hl:l.length=n:=by have:=hs.1; rw[bvals_len]at this; exact this
 have h1:=run_convert_bytes_back (P:=Tp) w 86 9 5 ⟨k,0,none⟩ cap l (by kernel_rfl) (by kernel_rfl) (by kernel_rfl) (fun j hj=>by
  rw[addr_add,Nat.zero_add]
  rw[rowZ.cell hs (i:=j) (v:=.int .u8 (l[j]).toNat) (by rw[bvals_get,List.getElem?_eq_getElem hj]; rfl)])
 rw[hl]at h1
 exact h1
theorem exp_spec (n:Int) (w:World):Ret Tp 183 #[.int .i64 n] w (.int .u8 ((exI n).toNat:Int)):=by
 refine ret_of (gf_Exp_calls ?_)
 unfold gf_Exp
 refine(fresh_spec (T.nil w)).mono fun e w1 ⟨b,he,h1⟩=>⟨_,he,?_⟩
 exact(power_spec h1 List.mem_cons_self n).mono fun e w2 ⟨he,hx⟩=>⟨_,he,rfl,(h1.quiet hx).chg.ext⟩
def invF (x:UInt8):UInt8:=if x=0 then 0 else exI (0-(lg x:Int))
theorem invF_ne {x:UInt8}(h:x≠0):invF x=invG x:=by
 unfold invF invG exI
 rw[if_neg h]
 have:=lg_lt x
 by_cases h0:lg x=0
 ·rw[h0]
  exact ex_255.symm
 ·congr 1
  omega
theorem u8_zero {u:UInt8}(h:((u.toNat:Nat):Int)=0):u=0:=UInt8.toNat_inj.1 (by show u.toNat=0; omega)
theorem inv_spec (x:UInt8) (w:World):Ret Tp 182 #[.int .u8 (x.toNat:Int)] w (.tuple #[.int .u8 ((invF x).toNat:Int),.bool (decide (x≠0))]):=by
 refine ret_of (gf_Inv_calls ?_)
 unfold gf_Inv
 have hx:=x.toNat_lt
 refine⟨beq_t fun h0=>⟨by rw[u8_zero h0]; rfl,Ext.refl w⟩,beq_f fun h0=>?_⟩
 have hx0:x≠0:=fun e=>h0 (by rw[e]; rfl)
 have lx:=lg_lt x
 refine(fresh_spec (T.nil w)).mono fun e w1 ⟨b,he,h1⟩=>⟨_,he,fun w'=>T [] w w' [blk b tabs 292],h1.drew,⟨b,0,none⟩,rfl,by omega,by omega,(lg x:Int),fun w' h=>?_,?_⟩
 ·simp only[addr_add,Nat.zero_add,Nat.mul_one,Int.toNat_natCast]
  exact h.ld List.mem_cons_self (tab_log 1 0 1 255 hx)
 ·rw[wrap64 _ (by omega) (by omega)]
  refine(power_spec h1.drew List.mem_cons_self _).mono fun e w2 ⟨he,hx2⟩=>⟨_,he,h1.drew.quiet hx2,⟨b,0,none⟩,rfl,?_⟩
  simp only[addr_add,Nat.zero_add]
  have h2:=h1.drew.quiet hx2
  refine(on_load ⟨b,3,none⟩ 1 w2 (h2.ld (i:=3) List.mem_cons_self rfl)).mono fun e w3 ⟨he,hw⟩=>⟨1,he,?_⟩
  subst hw
  refine⟨h2,?_,h2.chg.ext⟩
  unfold invF
  rw[if_neg hx0,decide_eq_true hx0]
  rfl
def fillR (n:Nat) (f g:Nat→UInt8) (i:Nat):List UInt8:=(List.range n).map fun j=>if j<i then f j else g j
theorem fillR_len (n:Nat) (f g:Nat→UInt8) (i:Nat):(fillR n f g i).length=n:=by simp[fillR]
theorem fillR_zero (n:Nat) (f g:Nat→UInt8):fillR n f g 0=(List.range n).map g:=by simp[fillR]
theorem fillR_set (n:Nat) (f g:Nat→UInt8){i:Nat}(hi:i<n):(bvals (fillR n f g i)).set i (.int .u8 ((f i).toNat:Int))=bvals (fillR n f g (i+1)):=by
 apply List.ext_getElem?
 intro j
 rw[List.getElem?_set,bvals_len,fillR_len]
 by_cases h:i=j
 ·subst h
  rw[if_pos rfl,if_pos hi]
  simp[bvals,fillR,hi]
 ·rw[if_neg h]
  by_cases hj:j<n
  ·by_cases h1:j<i
   ·simp[bvals,fillR,hj,h1,show j<i+1 by omega]
   ·simp[bvals,fillR,hj,h1,show ¬j<i+1 by omega]
  ·simp[bvals,fillR,hj]
theorem fillR_all (n:Nat) (f g:Nat→UInt8):fillR n f g n=(List.range n).map f:=by
 unfold fillR
 apply List.map_congr_left
 intro j hj
 rw[if_pos (List.mem_range.1 hj)]
theorem range_getD (l:List UInt8) (f:UInt8→UInt8):((List.range l.length).map fun j=>f (l.getD j 0))=l.map f:=by
 apply List.ext_getElem?
 intro j
 by_cases h:j<l.length
 ·simp[h,List.getD]
 ·simp[h]
theorem list_range (l:List UInt8):((List.range l.length).map fun j=>l.getD j 0)=l:=by
 have h:=range_getD l fun x=>x
 rw[List.map_id']at h
 exact h
def timesL (l:List UInt8) (by_:UInt8):List UInt8:=l.map fun x=>mulG x by_
theorem times_spec (s:ByteArray) (by_:UInt8) (hs:s.size≤1000000000) (w:World):Ret Tp 122 #[.string s,.int .u8 (by_.toNat:Int)] w (.string (strB (timesL s.data.toList by_))):=by
 refine ret_of (gf_Times_calls ?_)
 unfold gf_Times
 have hl:s.data.toList.length=s.size:=Array.length_toList
 refine(fresh_spec (T.nil w)).mono fun e w1 ⟨b,he,h1⟩=>⟨_,he,?_⟩
 obtain⟨k,w2,hmk,h2⟩:=make_t (P:=Tp) (t:=86) (e:=5) (i:=Tryz.t5) (z:=.int .u8 0) (kl:=.i64) (kc:=.i64) (n:=(s.size:Int)) (c:=(s.size:Int)) (by kernel_rfl) (by kernel_rfl) (by kernel_rfl) (by kernel_rfl) (by rfl) (by kernel_rfl) (by omega) (by omega) (by omega) h1
 simp only[Int.toNat_natCast]at hmk h2
 refine⟨_,_,_,w2,hmk,?_⟩
 generalize hf:(fun j=>mulG (s.data.toList.getD j 0) by_)=f
 have h2:T [] w w2 (rowP 5 1 (some k) s.size s.size (bvals (fillR s.size f (fun _=>0) 0))::[blk b tabs 292]):=by
  have:List.replicate s.size ((Value.int .u8 0).cells.getD 0 undef)=bvals (fillR s.size f (fun _=>0) 0):=by
   rw[fillR_zero]
   show List.replicate s.size (Value.int .u8 0)=_
   rw[bvals_zeros,List.map_const',List.length_range]
  rw[this]at h2
  exact h2
 refine⟨fun vs w'=>∃i:Nat,vs=[.int .i64 (i:Int)]∧i≤s.size∧T [] w w' (rowP 5 1 (some k) s.size s.size (bvals (fillR s.size f (fun _=>0) i))::[blk b tabs 292]),fun vs _=>match vs with|[.int _ i]=>(s.size-i).toNat|_=>0,⟨0,rfl,by omega,h2⟩,?_⟩
 rintro vs w3 ⟨i,rfl,hi,h3⟩
 refine⟨_,rfl,dec_t fun hlt=>?_,dec_f fun hge=>?_⟩
 ·have hlt:i<s.size:=by omega
  have hix:=index_str (P:=Tp) (t:=9) (k:=.i64) (n:=(i:Int)) (s:=s) (w:=w3) (by kernel_rfl) (by omega) (by omega)
  rw[Int.toNat_natCast]at hix
  refine⟨_,w3,hix,?_⟩
  refine(mul_spec h3 (List.mem_cons_of_mem _ List.mem_cons_self) (s.data.toList.getD i 0) by_).mono fun e w4 ⟨he,hx4⟩=>⟨_,he,⟨k,0,none⟩,rfl,by omega,by omega,?_⟩
  simp only[addr_add,Nat.zero_add,Nat.mul_one,Int.toNat_natCast]
  refine StRow.t (h3.quiet hx4) .head (by rw[bvals_len,fillR_len]; exact hlt) rfl fun w5 h5=>?_
  have hfi:mulG (s.data.toList.getD i 0) by_=f i:=by rw[←hf]
  rw[hfi,fillR_set _ _ _ hlt]at h5
  refine⟨⟨i+1,?_,by omega,h5⟩,?_⟩
  ·rw[wrap64 _ (by omega) (by omega)]; rfl
  ·show((s.size:Int)-IntKind.i64.wrap ((i:Int)+1)).toNat<((s.size:Int)-(i:Int)).toNat
   rw[wrap64 _ (by omega) (by omega)]; omega
 ·have hie:i=s.size:=by omega
  subst hie
  rw[fillR_all]at h3
  refine⟨_,w3,row_string h3 List.mem_cons_self,?_,h3.chg.ext⟩
  have:(List.range s.size).map f=timesL s.data.toList by_:=by
   rw[←hl,←hf]
   exact range_getD s.data.toList fun x=>mulG x by_
  rw[this]
def xorT:List UInt8→List UInt8→List UInt8
 |[],b=>b
 |a,[]=>a
 |x::a,y::b=>(x^^^y)::xorT a b
theorem xorT_comm:∀a b:List UInt8,xorT a b=xorT b a
 |[],[]=>rfl
 |[],_::_=>rfl
 |_::_,[]=>rfl
 |x::a,y::b=>by simp only[xorT]; rw[UInt8.xor_comm,xorT_comm a b]
theorem xorT_len:∀a b:List UInt8,(xorT a b).length=max a.length b.length
 |[],b=>by simp[xorT]
 |_::_,[]=>by simp[xorT]
 |x::a,y::b=>by simp only[xorT,List.length_cons,xorT_len a b]; omega
theorem xorT_get:∀(a b:List UInt8) (j:Nat),(xorT a b).getD j 0=a.getD j 0^^^b.getD j 0
 |[],b,j=>by simp[xorT]
 |x::a,[],j=>by simp[xorT]
 |x::a,y::b,0=>by simp[xorT]
 |x::a,y::b,j+1=>by
  have:=xorT_get a b j
  simpa[xorT] using this
theorem ext_getD {a b:List UInt8}(h:a.length=b.length) (hg:∀j,j<a.length→a.getD j 0=b.getD j 0):a=b:=by
 apply List.ext_getElem h
 intro j h1 h2
 have:=hg j h1
 simpa[List.getD,h1,h2] using this
theorem u8_xor (x y:UInt8):bits2 .xor .u8 (x.toNat:Int) (y.toNat:Int)=((x^^^y).toNat:Int):=by
 have hx:=x.toNat_lt; have hy:=y.toNat_lt
 unfold bits2
 simp only[IntKind.bits]
 rw[show BitVec.ofInt 8 ((x.toNat:Nat):Int)=BitVec.ofNat 8 x.toNat by simp,show BitVec.ofInt 8 ((y.toNat:Nat):Int)=BitVec.ofNat 8 y.toNat by simp]
 have:((BitVec.ofNat 8 x.toNat^^^BitVec.ofNat 8 y.toNat).toNat)=(x^^^y).toNat:=by
  rw[BitVec.toNat_xor,BitVec.toNat_ofNat,BitVec.toNat_ofNat,UInt8.toNat_xor,Nat.mod_eq_of_lt hx,Nat.mod_eq_of_lt hy]
 have h2:=(x^^^y).toNat_lt
 show IntKind.u8.wrap (((BitVec.ofNat 8 x.toNat^^^BitVec.ofNat 8 y.toNat).toNat:Nat):Int)=_
 rw[this,wrap8]
 omega
theorem xor_spec (s0 s1:ByteArray) (h0:s0.size≤1000000000) (h1:s1.size≤1000000000) (w:World):Ret Tp 184 #[.string s0,.string s1] w (.string (strB (xorT s0.data.toList s1.data.toList))):=by
 refine ret_of (gf_Xor_calls ?_)
 unfold gf_Xor
 refine Join.intro fun J hJ=>?_
 have main:∀a b:ByteArray,b.size≤a.size→a.size≤1000000000→xorT a.data.toList b.data.toList=xorT s0.data.toList s1.data.toList→J [.string a,.string b] w:=by
  intro a b hba ha hab
  refine hJ _ _ ⟨_,_,rfl,?_⟩
  have hla:a.data.toList.length=a.size:=Array.length_toList
  have hlb:b.data.toList.length=b.size:=Array.length_toList
  obtain⟨k,cap,w2,hc,h2⟩:=bytes_t (T.nil w) a
  refine⟨_,_,_,w2,hc,?_⟩
  generalize hf:(fun j=>a.data.toList.getD j 0^^^b.data.toList.getD j 0)=f
  generalize hg:(fun j=>a.data.toList.getD j 0)=g
  have h2:T [] w w2 [rowZ 5 k a.size (bvals (fillR a.size f g 0))]:=by
   have:a.data.toList=fillR a.size f g 0:=by
    rw[fillR_zero,←hg,←hla]
    exact(list_range a.data.toList).symm
   rw[←this]; exact h2
  refine⟨fun vs w'=>∃i:Nat,vs=[.int .i64 (i:Int)]∧i≤b.size∧T [] w w' [rowZ 5 k a.size (bvals (fillR a.size f g i))],fun vs _=>match vs with|[.int _ i]=>(b.size-i).toNat|_=>0,⟨0,rfl,by omega,h2⟩,?_⟩
  rintro vs w3 ⟨i,rfl,hi,h3⟩
  refine⟨_,rfl,dec_t fun hlt=>?_,dec_f fun hge=>?_⟩
  ·have hlt:i<b.size:=by omega
   have hfg:(fillR a.size f g i)[i]?=some (a.data.toList.getD i 0):=by
    rw[←hg]; simp[fillR,show i<a.size by omega]
   refine⟨fun w'=>T [] w w' [rowZ 5 k a.size (bvals (fillR a.size f g i))],h3.drew,⟨k,0,none⟩,rfl,by omega,by omega,((a.data.toList.getD i 0).toNat:Int),fun w' hd=>?_,((b.data.toList.getD i 0).toNat:Int),fun w' hd=>?_,⟨k,0,none⟩,rfl,by omega,by omega,?_⟩
   ·simp only[addr_add,Nat.zero_add,Nat.mul_one,Int.toNat_natCast]
    exact rowZ.cell (hd.says List.mem_cons_self) (by rw[bvals_get,hfg]; rfl)
   ·have hix:=index_str (P:=Tp) (t:=9) (k:=.i64) (n:=(i:Int)) (s:=b) (w:=w') (by kernel_rfl) (by omega) (by omega)
    rw[Int.toNat_natCast]at hix
    exact hix
   ·simp only[addr_add,Nat.zero_add,Nat.mul_one,Int.toNat_natCast]
    rw[u8_xor]
    refine StZ.t h3.drew .head (by omega) rfl fun w5 h5=>?_
    have hfi:a.data.toList.getD i 0^^^b.data.toList.getD i 0=f i:=by rw[←hf]
    rw[hfi,fillR_set _ _ _ (by omega)]at h5
    refine⟨⟨i+1,?_,by omega,h5⟩,?_⟩
    ·rw[wrap64 _ (by omega) (by omega)]; rfl
    ·show((b.size:Int)-IntKind.i64.wrap ((i:Int)+1)).toNat<((b.size:Int)-(i:Int)).toNat
     rw[wrap64 _ (by omega) (by omega)]; omega
  ·have hie:i=b.size:=by omega
   subst hie
   refine⟨_,w3,row_stringZ h3 List.mem_cons_self,?_,h3.chg.ext⟩
   have:fillR a.size f g b.size=xorT s0.data.toList s1.data.toList:=by
    rw[←hab]
    apply ext_getD
    ·rw[fillR_len,xorT_len]; omega
    ·intro j hj
     rw[fillR_len]at hj
     rw[xorT_get]
     by_cases hjb:j<b.size
     ·simp[fillR,List.getD,hj,hjb,←hf]
     ·have hz:b.data.toList.getD j 0=0:=by simp[List.getD,List.getElem?_eq_none (show b.data.toList.length≤j by omega)]
      rw[hz]
      simp[fillR,List.getD,hj,hjb,←hg]
   rw[this]
 refine⟨dec_t fun hlt=>main _ _ (by omega) h1 (xorT_comm _ _),dec_f fun hge=>main _ _ (by omega) h0 rfl⟩
theorem dbl_spec (x:UInt8) (w:World):Ret Tp 192 #[.int .u8 (x.toNat:Int),.int .u8 2] w (.int .u8 ((xt x).toNat:Int)):=by
 refine ret_of (gf_Mul_calls ?_)
 unfold gf_Mul
 have step:∀y:UInt8,(Int.fdiv (y.toNat:Int) (2 ^ 7)=1→bits2 .xor .u8 (IntKind.u8.wrap ((y.toNat:Int)*2 ^ 1)) 29=((xt y).toNat:Int))∧(¬Int.fdiv (y.toNat:Int) (2 ^ 7)=1→IntKind.u8.wrap ((y.toNat:Int)*2 ^ 1)=((xt y).toNat:Int)):=by
  have h:∀n:Fin 256,(Int.fdiv ((UInt8.ofNat n.1).toNat:Int) (2 ^ 7)=1→bits2 .xor .u8 (IntKind.u8.wrap (((UInt8.ofNat n.1).toNat:Int)*2 ^ 1)) 29=((xt (UInt8.ofNat n.1)).toNat:Int))∧(¬Int.fdiv ((UInt8.ofNat n.1).toNat:Int) (2 ^ 7)=1→IntKind.u8.wrap (((UInt8.ofNat n.1).toNat:Int)*2 ^ 1)=((xt (UInt8.ofNat n.1)).toNat:Int)):=by decide +kernel
  intro y
  have:=h ⟨y.toNat,y.toNat_lt⟩
  simpa using this
 have b0:bits2 .and .u8 2 1=0:=by decide
 have b1:bits2 .and .u8 1 1=1:=by decide
 have d2:Int.fdiv 2 (2 ^ 1)=1:=by decide
 have d1:Int.fdiv 1 (2 ^ 1)=0:=by decide
 refine⟨fun vs w'=>w'=w∧(vs=[.int .u8 (x.toNat:Int),.int .u8 2,.int .u8 0]∨vs=[.int .u8 ((xt x).toNat:Int),.int .u8 1,.int .u8 0]∨∃y:Int,vs=[.int .u8 y,.int .u8 0,.int .u8 ((xt x).toNat:Int)]),fun vs _=>match vs with|[_,.int _ b,_]=>b.toNat|_=>0,⟨rfl,.inl rfl⟩,?_⟩
 rintro vs w1 ⟨rfl,h|h|⟨y,h⟩⟩
 ·subst h
  refine⟨_,_,_,rfl,dec_t fun _=>Join.intro fun J hJ=>?_,dec_f fun h=>absurd h (by decide)⟩
  rw[b0]
  refine no rfl (hJ _ _ ⟨_,rfl,?_⟩)
  rw[d2]
  refine⟨beq_t fun h7=>⟨⟨rfl,.inr (.inl ?_)⟩,show(1:Int).toNat<(2:Int).toNat by decide⟩,beq_f fun h7=>⟨⟨rfl,.inr (.inl ?_)⟩,show(1:Int).toNat<(2:Int).toNat by decide⟩⟩
  ·rw[(step x).1 h7]
  ·rw[(step x).2 h7]
 ·subst h
  refine⟨_,_,_,rfl,dec_t fun _=>Join.intro fun J hJ=>?_,dec_f fun h=>absurd h (by decide)⟩
  rw[b1]
  have hz:bits2 .xor .u8 0 ((xt x).toNat:Int)=((xt x).toNat:Int):=by
   have:=u8_xor 0 (xt x)
   rw[UInt8.zero_xor]at this
   exact this
  refine yes rfl (hJ _ _ ⟨_,rfl,?_⟩)
  rw[d1,hz]
  exact⟨fun _=>⟨⟨rfl,.inr (.inr ⟨_,rfl⟩)⟩,show(0:Int).toNat<(1:Int).toNat by decide⟩,fun _=>⟨⟨rfl,.inr (.inr ⟨_,rfl⟩)⟩,show(0:Int).toNat<(1:Int).toNat by decide⟩⟩
 ·subst h
  refine⟨_,_,_,rfl,dec_t fun h=>absurd h (by decide),dec_f fun _=>⟨rfl,Ext.refl _⟩⟩
end Go.Proofs.YtkknkmplmilihaaGreat
end
section
namespace Go.Sh
open Go.RowKit
theorem RoundX.t {obf:LoopState→Option Code→Obj}{l i:Nat}{Φ:Value→World→Prop}{body:(World→Prop)→(Nat→World→Prop)→(World→Prop)→World→Prop}{F:List Nat}{w0 W:World}{Γ:List A}
  (hT:T F w0 W (ob l (obf .ready none)::Γ)) {G:List A→Prop} (hΦ:∀Γ' w',G Γ'→T F w0 w' (ob l (obf .done (some (.exit i)))::Γ')→Φ (.bool false) w')
  (hb:∀K X R w1,T F w0 w1 (ob l (obf .busy none)::Γ)→(∀Γ' w2,G Γ'→T F w0 w2 (ob l (obf .busy none)::Γ')→X i w2)→body K X R w1):RoundP obf l Φ body W:=
 ⟨hT.got List.mem_cons_self,hb _ _ _ _ hT.putTop fun Γ' w2 hg h2=>⟨h2.got List.mem_cons_self,hΦ Γ' _ hg h2.putTop⟩⟩
theorem RangeX.t {P:Program}{round:(LoopState→Option Code→Obj)→Nat→List Value→World→(Value→World→Prop)→Prop}{i:Nat}{Kx K R:Nat→World→Prop}{f:FuncId}{first cap:Array Value}(hb:bodyB P f=true)
  {F:List Nat} {w0 w:World} {Γ:List A} (hT:T F w0 w Γ) {N:Nat} {arg:Nat→List Value} {Inv:Nat→List A→Prop} {Out:List A→Prop} (h0:Inv 0 Γ)
  (hcallee:∀(yv:Value) (J:Nat→World→Prop) (E:World→Prop),(∀k W W',J k W→Ext W W'→J k W')→(∀k W,k<N→J k W→CallF P yv (arg k) W fun e w'=>e=.returned (.bool true)∧J (k+1) w')→(∀W,J N W→CallF P yv (arg N) W fun e w'=>e=.returned (.bool false)∧E w')→
   ∀W,J 0 W→Calls P f (first.toList++[yv]++cap.toList).toArray W fun e w'=>(∃v,e=.returned v)∧E w')
  (hround:∀(obf:LoopState→Option Code→Obj) (l d k:Nat) (Γk:List A) (W:World) (Φ:Value→World→Prop),k<N→Inv k Γk→T F w0 W (ob l (obf .ready none)::ob d (.deferred (some []))::Γk)→
   (∀Γ' w',Inv (k+1) Γ'→T F w0 w' (ob l (obf .ready none)::ob d (.deferred (some []))::Γ')→Φ (.bool true) w')→round obf l (arg k) W Φ)
  (hbrk:∀(obf:LoopState→Option Code→Obj) (l d:Nat) (Γk:List A) (W:World) (Φ:Value→World→Prop),Inv N Γk→T F w0 W (ob l (obf .ready none)::ob d (.deferred (some []))::Γk)→
   (∀Γ' w',Out Γ'→T F w0 w' (ob l (obf .done (some (.exit i)))::ob d (.deferred (some []))::Γ')→Φ (.bool false) w')→round obf l (arg N) W Φ)
  (hK:∀d Γ' w',Out Γ'→T F w0 w' (ob d (.deferred (some []))::Γ')→Kx d w'):RangeP P (.func (.func f) first cap) round [(i,Kx)] K R w:=by
 intro obf hob hyield
 refine⟨f,first,cap,rfl,hb,?_⟩
 have hsz:(w.alloc (.deferred (some []))).heap.size=w.heap.size+1:=by simp
 have h2:=(hT.alloc (.deferred (some []))).alloc (obf .ready none)
 rw[hsz]at h2
 refine(hcallee (.func (.yield (w.heap.size+1)) #[] #[]) (fun k W=>∃Γk,Inv k Γk∧T F w0 W (ob (w.heap.size+1) (obf .ready none)::ob w.heap.size (.deferred (some []))::Γk)) (fun W=>∃Γk,Out Γk∧T F w0 W (ob (w.heap.size+1) (obf .done (some (.exit i)))::ob w.heap.size (.deferred (some []))::Γk)) (fun k W W' ⟨Γk,hi,h⟩ hx=>⟨Γk,hi,h.quiet hx⟩) ?_ ?_ _ ⟨Γ,h0,h2⟩).mono ?_
 ·rintro k W hk ⟨Γk,hi,h⟩
  show CallV P (.func (.yield (w.heap.size+1)) #[] #[]) (arg k) W _
  refine hyield _ _ _ (h.got List.mem_cons_self) (hround obf _ w.heap.size k Γk W _ hk hi h fun Γ' w' hi' h'=>⟨rfl,Γ',hi',h'⟩)
 ·rintro W ⟨Γk,hi,h⟩
  show CallV P (.func (.yield (w.heap.size+1)) #[] #[]) (arg N) W _
  refine hyield _ _ _ (h.got List.mem_cons_self) (hbrk obf _ w.heap.size Γk W _ hi h fun Γ' w' hi' h'=>⟨rfl,Γ',hi',h'⟩)
 ·rintro e w3 ⟨hv,Γk,hi,h⟩
  refine⟨hv,.done,some (.exit i),h.got List.mem_cons_self,by simp,.inr (.inr (.inl ⟨rfl,hK _ Γk _ hi h.putTop.drop⟩))⟩
end Go.Sh
end
section
namespace Go.Proofs.YtkknkmplmilihaaGreat
open Go.Sh Go.RowKit
def strsL (w:World) (p:Option Addr) (L:List (List UInt8)):Prop:=strsAt w p (L.map strB)
theorem strsL.ext {w w':World}{p:Option Addr}{L:List (List UInt8)}(h:strsL w p L) (hx:Ext w w'):strsL w' p L:=strsAt.ext h hx
theorem strsL.get {w:World}{p:Option Addr}{L:List (List UInt8)}(h:strsL w p L){n:Nat}(h1:n<L.length):∃a,p=some a∧w.cell? (a.add (n*1))=some (.string (strB (L.getD n []))):=by
 obtain⟨a,ha⟩:=h.1 (by intro e; rw[List.map_eq_nil_iff]at e; subst e; simp at h1)
 refine⟨a,ha,?_⟩
 rw[Nat.mul_one]
 exact h.2 a ha n _ (by simp[h1])
theorem strsL.take {w:World}{p:Option Addr}{L:List (List UInt8)}(h:strsL w p L) (n:Nat):strsL w p (L.take n):=by
 refine⟨fun hn=>h.1 (by intro e; rw[List.map_eq_nil_iff]at e; subst e; simp at hn),fun a ha j s hj=>h.2 a ha j s ?_⟩
 rw[List.map_take,List.getElem?_take]at hj
 split at hj
 ·exact hj
 ·cases hj
theorem add_add (a:Addr) (m n:Nat):(a.add m).add n=a.add (m+n):=by
 unfold Addr.add
 by_cases h1:m=0
 ·subst h1; simp
 ·by_cases h2:n=0
  ·subst h2; simp[h1]
  ·simp[h1,h2,Nat.add_assoc]
theorem add_zero (a:Addr):a.add 0=a:=by simp[Addr.add]
def cutP (p:Option Addr) (c n:Nat):Option Addr:=if c=n then p else p.map (·.add n)
theorem strsL.drop {w:World}{p:Option Addr}{L:List (List UInt8)}(h:strsL w p L){c n:Nat}(hc:L.length≤c):strsL w (cutP p c n) (L.drop n):=by
 unfold cutP
 by_cases e:c=n
 ·have:L.drop n=[]:=by simp; omega
  rw[this]
  exact⟨fun hn=>absurd rfl hn,fun a ha j s hj=>by simp at hj⟩
 ·rw[if_neg e]
  refine⟨fun hn=>?_,fun a ha j s hj=>?_⟩
  ·obtain⟨a,ha⟩:=h.1 (by intro e; rw[List.map_eq_nil_iff]at e; subst e; simp at hn)
   exact⟨_,by rw[ha]; rfl⟩
  ·obtain⟨a',ha',rfl⟩:=Option.map_eq_some_iff.1 ha
   rw[List.map_drop,List.getElem?_drop]at hj
   rw[add_add]
   exact h.2 a' ha' _ s hj
theorem T.strs {F:List Nat}{w0 w:World}{Γ:List A}{g:Option Nat}{n cap:Nat}{L:List (List UInt8)}(hT:T F w0 w Γ) (hm:rowP 9 1 g n cap (L.map fun x=>.string (strB x))∈Γ):strsL w (ptr g) L∧L.length=n∧n≤cap:=by
 have hs:=hT.says hm
 have hl:=rowP.len hs
 rw[List.length_map,Nat.mul_one]at hl
 refine⟨⟨fun hn=>?_,fun a ha j s hj=>?_⟩,hl,hs.2.1⟩
 ·obtain⟨b,rfl⟩:=rowP.pos hs (by
   cases L with
   |nil=>exact absurd rfl hn
   |cons x L=>simp at hl; omega)
  exact⟨_,rfl⟩
 ·cases g with
  |none=>cases ha
  |some b=>
   cases ha
   rw[addr_add,Nat.zero_add]
   refine rowP.cell hs ?_
   rw[List.getElem?_map]at hj⊢
   cases hq:L[j]? with
   |none=>rw[hq]at hj; cases hj
   |some x=>rw[hq]at hj; cases hj; rfl
theorem sizeStr (w:World):(sizeOf (Tp.elem 54)).run Tp w=.ok 1 w:=by kernel_rfl
theorem strs_to {p:Option Addr}{n c:Nat}{hi:Int}(h0:0≤hi) (h2:hi≤(c:Int)) (w:World):(Instr.sliceAt 54 (.slice p n c) none (some (.int .i64 hi)) none).run Tp w=.ok (.slice p hi.toNat c) w:=by
 rw[run_sliceAt_slice w _ _ _ _ _ (by kernel_rfl),run_slice_h w _ _ _ _ (by kernel_rfl) _ _ h0 h2,sizeStr]
 simp only[Result.andThen,sliced,Nat.zero_mul,Nat.sub_zero]
 congr 2
 split
 ·rfl
 ·cases p with
  |none=>rfl
  |some a=>simp[add_zero]
theorem strs_from {p:Option Addr}{n c:Nat}{lo:Int}(h0:0≤lo) (h1:lo≤(n:Int)) (w:World):(Instr.sliceAt 54 (.slice p n c) (some (.int .i64 lo)) none none).run Tp w=.ok (.slice (cutP p c lo.toNat) (n-lo.toNat) (c-lo.toNat)) w:=by
 rw[run_sliceAt_slice w _ _ _ _ _ (by kernel_rfl),run_slice_l w _ _ _ _ (by kernel_rfl) _ _ h0 h1,sizeStr]
 simp only[Result.andThen,sliced,Nat.mul_one]
 rfl
def Short (L:List (List UInt8)):Prop:=∀x∈L,x.length≤1000000
theorem Short.get {L:List (List UInt8)}(h:Short L) (n:Nat):(L.getD n []).length≤1000000:=by
 rw[List.getD_eq_getElem?_getD]
 cases hq:L[n]? with
 |none=>simp
 |some x=>exact h x (List.mem_of_getElem? hq)
theorem Short.take {L:List (List UInt8)}(h:Short L) (n:Nat):Short (L.take n):=fun x hx=>h x (List.mem_of_mem_take hx)
def sAcc (L:List (List UInt8)):Nat→List UInt8
 |0=>[]
 |m+1=>xorT (sAcc L m) (L.getD m [])
def sumT (L:List (List UInt8)):List UInt8:=sAcc L L.length
def qAcc (L:List (List UInt8)):Nat→List UInt8
 |0=>[]
 |m+1=>xorT (qAcc L m) (timesL (L.getD m []) (ex m))
def qT (L:List (List UInt8)):List UInt8:=qAcc L L.length
theorem timesL_len (l:List UInt8) (b:UInt8):(timesL l b).length=l.length:=List.length_map ..
theorem sAcc_len {L:List (List UInt8)}(h:Short L):∀m,(sAcc L m).length≤1000000
 |0=>by simp[sAcc]
 |m+1=>by have:=sAcc_len h m; have:=h.get m; simp only[sAcc,xorT_len]; omega
theorem qAcc_len {L:List (List UInt8)}(h:Short L):∀m,(qAcc L m).length≤1000000
 |0=>by simp[qAcc]
 |m+1=>by have:=qAcc_len h m; have:=h.get m; simp only[qAcc,xorT_len,timesL_len]; omega
theorem added_spec {L:List (List UInt8)}(hS:Short L) (hn:L.length≤1000000){p:Option Addr}{c:Nat}{w:World}(h:strsL w p L):Ret Tp 120 #[.slice p L.length c] w (.string (strB (sumT L))):=by
 refine ret_of (syndrome_added_calls ?_)
 unfold syndrome_added
 refine⟨fun vs w'=>∃i:Nat,vs=[.string (strB (sAcc L i)),.int .i64 (i:Int)]∧i≤L.length∧Ext w w',fun vs _=>match vs with|[_,.int _ i]=>(L.length-i).toNat|_=>0,⟨0,rfl,by omega,.refl w⟩,?_⟩
 rintro vs w1 ⟨i,rfl,hi,hx⟩
 refine⟨_,_,rfl,dec_t fun hlt=>?_,dec_f fun hge=>?_⟩
 ·have hlt:i<L.length:=by omega
  obtain⟨a,ha,hc⟩:=(h.ext hx).get hlt
  refine⟨a,ha,by omega,by omega,_,by rw[Int.toNat_natCast]; exact hc,?_⟩
  refine(xor_spec (strB (sAcc L i)) (strB (L.getD i [])) (by rw[strB_size]; have:=sAcc_len hS i; omega) (by rw[strB_size]; have:=hS.get i; omega) w1).mono fun e w2 ⟨he,hx2⟩=>⟨_,he,⟨i+1,?_,by omega,hx.trans hx2⟩,?_⟩
  ·rw[wrap64 _ (by omega) (by omega)]; rfl
  ·show((L.length:Int)-IntKind.i64.wrap ((i:Int)+1)).toNat<((L.length:Int)-(i:Int)).toNat
   rw[wrap64 _ (by omega) (by omega)]; omega
 ·have hie:i=L.length:=by omega
  subst hie
  exact⟨rfl,hx⟩
theorem p_spec {L:List (List UInt8)}(hS:Short L) (hn:L.length≤1000000){p:Option Addr}{c:Nat}{w:World}(h:strsL w p L):Ret Tp 54 #[.slice p L.length c] w (.string (strB (sumT L))):=by
 refine ret_of (syndrome_P_calls ?_)
 unfold syndrome_P
 exact(added_spec hS hn h).mono fun e w1 ⟨he,hx⟩=>⟨_,he,rfl,hx⟩
theorem lg_ex {k:Nat}(h:k<255):lg (ex k)=k:=ex_inj (lg_lt _) h (ex_lg (ex_ne k))
theorem powers_spec {N:Nat}(hN:N<255){yv:Value}{J:Nat→World→Prop}{E:World→Prop}(hq:∀k W W',J k W→Ext W W'→J k W')
  (h1:∀k W,k<N→J k W→CallF Tp yv [.int .u8 ((ex k).toNat:Int)] W fun e w'=>e=.returned (.bool true)∧J (k+1) w')
  (h2:∀W,J N W→CallF Tp yv [.int .u8 ((ex N).toNat:Int)] W fun e w'=>e=.returned (.bool false)∧E w') (W:World) (h0:J 0 W):
  Calls Tp 191 #[yv] W fun e w'=>(∃v,e=.returned v)∧E w':=by
 refine(syndrome_powers_1_calls (R:=fun v w'=>E w') ?_).mono fun e w' ⟨v,he,h⟩=>⟨⟨v,he⟩,h⟩
 unfold syndrome_powers_1
 refine⟨fun vs w'=>∃k:Nat,vs=[.int .u8 ((ex k).toNat:Int)]∧k≤N∧J k w',fun vs _=>match vs with|[.int _ x]=>N-lg (UInt8.ofNat x.toNat)|_=>0,⟨0,rfl,by omega,h0⟩,?_⟩
 rintro vs w1 ⟨k,rfl,hk,hJ⟩
 refine⟨_,rfl,?_⟩
 by_cases hlt:k<N
 ·refine CallF.mono (h1 k w1 hlt hJ) fun e w2 ⟨he,hJ2⟩=>⟨true,he,yes rfl ?_⟩
  refine(dbl_spec (ex k) w2).mono fun e w3 ⟨he,hx⟩=>⟨_,he,⟨k+1,rfl,by omega,hq _ _ _ hJ2 hx⟩,?_⟩
  show N-lg (UInt8.ofNat (((xt (ex k)).toNat:Int)).toNat)<N-lg (UInt8.ofNat (((ex k).toNat:Int)).toNat)
  rw[Int.toNat_natCast,Int.toNat_natCast,UInt8.ofNat_toNat,UInt8.ofNat_toNat,show xt (ex k)=ex (k+1) from rfl,lg_ex (by omega),lg_ex (by omega)]
  omega
 ·have:k=N:=by omega
  subst this
  exact CallF.mono (h2 w1 hJ) fun e w2 ⟨he,hE⟩=>⟨false,he,no rfl hE⟩
theorem row2 {F:List Nat}{w0 w:World}{Γ:List A}{k:Nat}{a b:List UInt8}(h:T F w0 w (blk k #[.string (strB a),.string (strB b)] 9::Γ)):strsL w (some ⟨k,0,none⟩) [a,b]:=by
 have h2:T F w0 w (rowP 9 1 (some k) 2 2 ([a,b].map fun x=>.string (strB x))::Γ):=blk_row h rfl rfl (by decide)
 exact(T.strs h2 List.mem_cons_self).1
theorem short2 {a b:List UInt8}(ha:a.length≤1000000) (hb:b.length≤1000000):Short [a,b]:=fun x hx=>by
 rcases List.mem_cons.1 hx with rfl|hx
 ·exact ha
 ·obtain rfl:=List.mem_singleton.1 hx
  exact hb
theorem q_spec {L:List (List UInt8)}(hS:Short L) (hn:L.length≤200){p:Option Addr}{c:Nat}(hcl:L.length≤c){w:World}(h:strsL w p L):Ret Tp 55 #[.slice p L.length c] w (.string (strB (qT L))):=by
 refine ret_of (syndrome_Q_calls ?_)
 unfold syndrome_Q
 refine Alloc.t (T.nil w) fun k1 w1 h1=>Alloc.t h1 fun k3 w2 h2=>?_
 refine(syndrome_powers_calls (R:=fun v w'=>v=.func (.func 191) #[] #[]∧T [] w w' [blk k3 #[.string (strB (qAcc L 0))] 9,blk k1 #[.slice p L.length c] 54]) ?_).mono ?_
 ·unfold syndrome_powers
  exact⟨rfl,h2⟩
 rintro e w3 ⟨v,he,rfl,h3⟩
 refine⟨_,he,?_⟩
 have Dld:∀{w':World} {pm:Option Addr} {n cm m:Nat},(∃Γ,T [] w w' Γ∧blk k3 #[.string (strB (qAcc L m))] 9∈Γ∧blk k1 #[.slice pm n cm] 54∈Γ)→w'.cell? ⟨k3,0,none⟩=some (.string (strB (qAcc L m)))∧w'.cell? ⟨k1,0,none⟩=some (.slice pm n cm)∧Ext w w':=fun⟨Γ,hd,m3,m1⟩=>⟨hd.ld m3 rfl,hd.ld m1 rfl,hd.chg.ext⟩
 refine RangeX.t (by kernel_rfl) h3 (N:=L.length) (arg:=fun m=>[.int .u8 ((ex m).toNat:Int)])
  (Inv:=fun m Γm=>∃pm cm,(∀w',Ext w w'→strsL w' pm (L.drop m))∧L.length-m≤cm∧Γm=[blk k3 #[.string (strB (qAcc L m))] 9,blk k1 #[.slice pm (L.length-m) cm] 54])
  (Out:=fun Γ'=>∃pm cm,Γ'=[blk k3 #[.string (strB (qAcc L L.length))] 9,blk k1 #[.slice pm 0 cm] 54])
  ⟨p,c,fun w' hx=>h.ext hx,hcl,rfl⟩ ?_ ?_ ?_ ?_
 ·intro yv J E hq hc1 hc2 W hW
  exact powers_spec (by omega) hq hc1 hc2 W hW
 ·rintro obf l d m Γk W Φ hm ⟨pm,cm,hpm,hcm,rfl⟩ hW hΦ
  refine⟨_,rfl,?_⟩
  refine RoundP.t hW (G:=fun Γ'=>∃Γ'',Γ'=ob d (.deferred (some []))::Γ''∧∃pm cm,(∀w',Ext w w'→strsL w' pm (L.drop (m+1)))∧L.length-(m+1)≤cm∧Γ''=[blk k3 #[.string (strB (qAcc L (m+1)))] 9,blk k1 #[.slice pm (L.length-(m+1)) cm] 54]) ?_ ?_
  ·rintro Γ' w' ⟨Γ'',rfl,hi⟩ h'
   exact hΦ Γ'' w' hi h'
  ·intro K X R w4 h4 hK
   have hdl:(L.drop m).length=L.length-m:=List.length_drop
   have hd0:(L.drop m).getD 0 []=L.getD m []:=by simp[List.getD]
   obtain⟨a,ha,_⟩:=(hpm w (.refl w)).get (n:=0) (by omega)
   refine⟨_,_,_,h4.ld (by repeat constructor) rfl,no (by simp; omega) ?_⟩
   refine⟨fun w'=>∃Γ,T [] w w' Γ∧blk k3 #[.string (strB (qAcc L m))] 9∈Γ∧blk k1 #[.slice pm (L.length-m) cm] 54∈Γ,⟨_,h4.drew,(by repeat constructor),(by repeat constructor)⟩,_,fun w' hd=>(Dld hd).1,_,_,_,fun w' hd=>(Dld hd).2.1,a,ha,by omega,by omega,strB (L.getD m []),fun w' hd=>?_,?_⟩
   ·obtain⟨a',ha',hc⟩:=(hpm w' (Dld hd).2.2).get (n:=0) (by omega)
    rw[ha]at ha'
    cases ha'
    rw[hd0,Nat.zero_mul,add_zero]at hc
    exact hc
   ·have hsl:=hS.get m
    refine(times_spec (strB (L.getD m [])) (ex m) (by rw[strB_size]; omega) _).mono fun e w5 ⟨he,hx5⟩=>⟨_,he,⟨_,h4.drew.quiet hx5,(by repeat constructor),(by repeat constructor)⟩,?_⟩
    refine Alloc.t (h4.drew.quiet hx5) fun k16 w6 h6=>⟨⟨_,h6,(by repeat constructor),(by repeat constructor)⟩,?_⟩
    have hst:=row2 h6
    refine(added_spec (L:=[qAcc L m,timesL (L.getD m []) (ex m)]) (short2 (qAcc_len hS m) (by rw[timesL_len]; omega)) (by simp) (c:=2) hst).mono fun e w7 ⟨he,hx7⟩=>⟨_,he,⟨_,h6.quiet hx7,(by repeat constructor),(by repeat constructor)⟩,?_⟩
    have h7:=h6.quiet hx7
    have hq:sumT [qAcc L m,timesL (L.getD m []) (ex m)]=qAcc L (m+1):=rfl
    try dsimp only
    rw[hq]
    refine St.t h7 (by repeat constructor) (by simp) (by rfl) rfl fun w8 h8=>?_
    refine⟨_,_,_,h8.ld (b:=k1) (by repeat constructor) rfl,_,_,_,w8,strs_from (by omega) (by omega) w8,?_⟩
    rw[show L.length-m-(1:Int).toNat=L.length-(m+1) by omega]
    refine St.t h8 (by repeat constructor) (by simp) (by rfl) rfl fun w9 h9=>hK (ob d (.deferred (some []))::[blk k3 #[.string (strB (qAcc L (m+1)))] 9,blk k1 #[.slice (cutP pm cm 1) (L.length-(m+1)) (cm-1)] 54]) w9 ⟨_,rfl,cutP pm cm 1,cm-1,fun w' hx=>?_,by omega,?_⟩ ?_
    ·have:=(hpm w' hx).drop (c:=cm) (n:=1) (by omega)
     rw[List.drop_drop]at this
     exact this
    ·rfl
    ·exact h9.drop
 ·rintro obf l d Γk W Φ ⟨pm,cm,hpm,hcm,rfl⟩ hW hΦ
  refine⟨_,rfl,?_⟩
  refine RoundX.t (i:=0) hW (G:=fun Γ'=>∃Γ'',Γ'=ob d (.deferred (some []))::Γ''∧∃pm cm,Γ''=[blk k3 #[.string (strB (qAcc L L.length))] 9,blk k1 #[.slice pm 0 cm] 54]) ?_ ?_
  ·rintro Γ' w' ⟨Γ'',rfl,hi⟩ h'
   exact hΦ Γ'' w' hi h'
  ·intro K X R w4 h4 hX
   rw[Nat.sub_self]at h4
   exact⟨_,_,_,h4.ld (by repeat constructor) rfl,yes rfl (hX _ w4 ⟨_,rfl,_,_,rfl⟩ h4)⟩
 ·rintro d Γ' w' ⟨pm,cm,rfl⟩ h'
  refine⟨_,h'.ld (by repeat constructor) rfl,?_⟩
  exact shut_mark (Q:=fun w2=>Value.string _=_∧Ext w w2) h' fun w2 h2=>⟨rfl,h2.chg.ext⟩
def synP (L:List (List UInt8)):List UInt8:=xorT (sumT (L.take (L.length-2))) (L.getD (L.length-2) [])
def synQ (L:List (List UInt8)):List UInt8:=xorT (qT (L.take (L.length-2))) (L.getD (L.length-1) [])
theorem synP_len {L:List (List UInt8)}(h:Short L):(synP L).length≤1000000:=by
 have:=sAcc_len (h.take (L.length-2)) (L.take (L.length-2)).length
 have:=h.get (L.length-2)
 unfold synP sumT
 rw[xorT_len]; omega
theorem synQ_len {L:List (List UInt8)}(h:Short L):(synQ L).length≤1000000:=by
 have:=qAcc_len (h.take (L.length-2)) (L.take (L.length-2)).length
 have:=h.get (L.length-1)
 unfold synQ qT
 rw[xorT_len]; omega
theorem sum_spec {L:List (List UInt8)}(hS:Short L) (h2:2≤L.length) (hn:L.length≤200){p:Option Addr}{c:Nat}(hcl:L.length≤c){w:World}(h:strsL w p L):Ret Tp 181 #[.slice p L.length c] w (.tuple #[.string (strB (synP L)),.string (strB (synQ L))]):=by
 refine ret_of (syndrome_Sum_calls ?_)
 unfold syndrome_Sum
 refine no (decide_eq_false (by omega)) ?_
 have hw:IntKind.i64.wrap ((L.length:Int)-2)=((L.length-2:Nat):Int):=by rw[wrap64 _ (by omega) (by omega)]; omega
 rw[hw]
 refine⟨fun _=>True,trivial,p,L.length-2,c,fun w' _=>by rw[strs_to (by omega) (by omega) w',Int.toNat_natCast],cutP p c (L.length-2),L.length-(L.length-2),c-(L.length-2),fun w' _=>by rw[strs_from (by omega) (by omega) w',Int.toNat_natCast],?_⟩
 have hx0:Ext w w.drew.drew:=(Ext.refl w).drew.drew
 have htl:(L.take (L.length-2)).length=L.length-2:=by rw[List.length_take]; omega
 have hST:=hS.take (L.length-2)
 have hrd:∀{w':World} (i:Nat),i<2→Ext w w'→∃a,cutP p c (L.length-2)=some a∧w'.cell? (a.add (i*1))=some (.string (strB (L.getD (L.length-2+i) []))):=fun {w'} i hi hx=>by
  obtain⟨a,ha,hc⟩:=((h.ext hx).drop (c:=c) (n:=L.length-2) hcl).get (n:=i) (by rw[List.length_drop]; omega)
  refine⟨a,ha,?_⟩
  rw[hc]
  simp[List.getD]
 obtain⟨a,ha,_⟩:=hrd 0 (by omega) (Ext.refl w)
 have hr0:∀{w':World},Ext w w'→w'.cell? a=some (.string (strB (L.getD (L.length-2) []))):=fun hx=>by
  obtain⟨a',ha',hc⟩:=hrd 0 (by omega) hx
  rw[ha]at ha'; cases ha'
  rw[Nat.zero_mul,add_zero,Nat.add_zero]at hc
  exact hc
 have hr1:∀{w':World},Ext w w'→w'.cell? (a.add 1)=some (.string (strB (L.getD (L.length-1) []))):=fun hx=>by
  obtain⟨a',ha',hc⟩:=hrd 1 (by omega) hx
  rw[ha]at ha'; cases ha'
  rw[Nat.one_mul,show L.length-2+1=L.length-1 by omega]at hc
  exact hc
 refine⟨fun w'=>Ext w w',hx0,?_⟩
 have hp:=p_spec hST (by omega) (c:=c) ((h.ext hx0).take (L.length-2))
 rw[htl]at hp
 refine hp.mono fun e w1 ⟨he,hx1⟩=>⟨_,he,hx0.trans hx1,a,ha,by omega,by omega,_,fun w' hx=>hr0 hx,?_⟩
 refine Alloc.t ((T.nil w).quiet (hx0.trans hx1)) fun k24 w2 h24=>⟨h24.chg.ext,?_⟩
 have l1:(sumT (L.take (L.length-2))).length≤1000000:=sAcc_len hST _
 have l2:(qT (L.take (L.length-2))).length≤1000000:=qAcc_len hST _
 have l3:=hS.get (L.length-2)
 have l4:=hS.get (L.length-1)
 refine(added_spec (L:=[sumT (L.take (L.length-2)),L.getD (L.length-2) []]) (short2 l1 l3) (by simp) (c:=2) (row2 h24)).mono fun e w3 ⟨he,hx3⟩=>⟨_,he,(h24.quiet hx3).chg.ext,?_⟩
 have h3:=h24.quiet hx3
 have hq:=q_spec hST (by omega) (c:=c) (by omega) ((h.ext h3.chg.ext).take (L.length-2))
 try dsimp only
 rw[htl]at hq
 refine hq.mono fun e w4 ⟨he,hx4⟩=>⟨_,he,(h3.quiet hx4).chg.ext,a,ha,by omega,by omega,_,fun w' hx=>hr1 hx,?_⟩
 refine Alloc.t (h3.quiet hx4) fun k31 w5 h5=>⟨h5.chg.ext,?_⟩
 refine(added_spec (L:=[qT (L.take (L.length-2)),L.getD (L.length-1) []]) (short2 l2 l4) (by simp) (c:=2) (row2 h5)).mono fun e w6 ⟨he,hx6⟩=>⟨_,he,(h5.quiet hx6).chg.ext,rfl,(h5.quiet hx6).chg.ext⟩
end Go.Proofs.YtkknkmplmilihaaGreat
end
