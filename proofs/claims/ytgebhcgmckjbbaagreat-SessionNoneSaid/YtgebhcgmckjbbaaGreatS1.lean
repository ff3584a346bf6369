/- Part of a proof. -/
import Derived.CallsIn
import Derived.OrdersIn
import Derived.RangeFuncIn
import Derived.RangeFuncLeaves
import Derived.KernelRfl
import Derived.Laws.Sem
import Derived.Laws.World
import Derived.RangeFuncRecord
import Derived.TacticsIn
set_option linter.all false
namespace Go.Vc
open Go
abbrev Kont:=Value→World→Prop
structure Ca(P:Program)(f:FuncId)(args:Array Value)(w:World)(K:Kont):Prop where
 out:Calls P f args w λe w' =>∃v,e=.returned v∧K v w'
theorem Ca.mono{P:Program}{f:FuncId}{args:Array Value}{w:World}{K K' :Kont}(h:Ca P f args w K)(hk:∀v w',K v w' →K' v w'):Ca P f args w K' :=
 ⟨Calls.mono h.out λ_ _ ⟨v,he,hv⟩=>⟨v,he,hk _ _ hv⟩⟩
def Yl(P:Program)(l:Nat)(args:Array Value)(w:World)(K:Kont):Prop:=
 ∃fn tmps assign body,(Instr.yield l args).run P w=.ok (.round l fn tmps assign body) w∧
  RoundIn Fence.wide 0 P l fn tmps assign body w λe w' =>∃v,e=.returned v∧K v w'
theorem Yl.mono{P:Program}{l:Nat}{args:Array Value}{w:World}{K K' :Kont}(h:Yl P l args w K)(hk:∀v w',K v w' →K' v w'):Yl P l args w K' :=
 let⟨fn,tmps,a,b,h1,h2⟩:=h
 ⟨fn,tmps,a,b,h1,h2.mono λ_ _ ⟨v,he,hv⟩=>⟨v,he,hk _ _ hv⟩⟩
def rvD(P:Program)(s:Sem Value)(w:World)(K:Kont):Prop:=
 match s.run P w with
 | .ok v w' =>K v w'
 | .halt _ _=>False
structure rv(P:Program)(s:Sem Value)(w:World)(K:Kont):Prop where
 out:rvD P s w K
theorem rv_iff{P:Program}{s:Sem Value}{w:World}{K:Kont}:rv P s w K↔rvD P s w K:=⟨rv.out,rv.mk⟩
def ruD(P:Program)(s:Sem Unit)(w:World)(K:World→Prop):Prop:=
 match s.run P w with
 | .ok _ w' =>K w'
 | .halt _ _=>False
structure ru(P:Program)(s:Sem Unit)(w:World)(K:World→Prop):Prop where
 out:ruD P s w K
theorem ru_iff{P:Program}{s:Sem Unit}{w:World}{K:World→Prop}:ru P s w K↔ruD P s w K:=⟨ru.out,ru.mk⟩
structure rx(P:Program)(s:Sem Value)(w:World)(K:Kont):Prop where
 out:rv P s w K
structure rux(P:Program)(s:Sem Unit)(w:World)(K:World→Prop):Prop where
 out:ru P s w K
def rnD(P:Program)(s:Sem Next)(w:World)(K:Kont):Prop:=
 match s.run P w with
 | .ok (.value v) w' =>K v w'
 | .ok .skip w' =>K undef w'
 | .ok (.enter f args) w' =>Ca P f args w' K
 | .ok (.round l fn tmps assign body) w' =>RoundIn Fence.wide 0 P l fn tmps assign body w' λe w'' =>∃v,e=.returned v∧K v w''
 |_=>False
structure rn(P:Program)(s:Sem Next)(w:World)(K:Kont):Prop where
 out:rnD P s w K
theorem rn_iff{P:Program}{s:Sem Next}{w:World}{K:Kont}:rn P s w K↔rnD P s w K:=⟨rn.out,rn.mk⟩
def NoNum(P:Program):Bool:=P.funcs.all λfn=> !(fn.name== "runtime.NumGoroutine")
def callD(P:Program)(fv:Value)(args:List Value)(w:World)(K:Kont):Prop:=
 match fv with
 | .func (.func f) first captured=>Ca P f ⟨first.toList++(args++captured.toList)⟩ w K
 | .func (.yield l) first _=>Yl P l ⟨first.toList++args⟩ w K
 |_=>False
structure callV(P:Program)(fv:Value)(args:List Value)(w:World)(K:Kont):Prop where
 out:callD P fv args w K
theorem callV_iff{P:Program}{fv:Value}{args:List Value}{w:World}{K:Kont}:callV P fv args w K↔callD P fv args w K:=⟨callV.out,callV.mk⟩
def isB(v:Value)(K:Bool→Prop):Prop:=
 match v with
 | .bool b=>K b
 |_=>False
def bc(b:Bool)(T F:Prop):Prop:=
 match b with
 |true=>T
 |false=>F
def ifB(v:Value)(T F:Prop):Prop:=isB v λb=>bc b T F
def selV(b:Bool)(x y:Value):Value:=
 match b with
 |true=>x
 |false=>y
theorem selV_eq(b:Bool)(x y:Value):selV b x y=if b then x else y:=by cases b<;>rfl
structure Env where
 l:List (Nat×Option Value)
 g:Nat→Value
 ds:List Nat
def Env.look:List (Nat×Option Value)→Nat→Option (Option Value)
 | [],_=>none
 |(k,v)::r,t=>bif Nat.beq k t then some v else Env.look r t
def Env.get(E:Env)(t:Nat):Value:=
 match Env.look E.l t with
 |some (some v)=>v
 |some none=>undef
 |none=>E.g t
def Env.put(E:Env)(d:Option Nat)(v:Value):Env:=
 match d with
 |some d=>{E with l:=(d,some v)::E.l}
 |none=>E
def Env.skip(E:Env)(d:Option Nat):Env:=
 match d with
 |some d=>{E with l:=(d,none)::E.l}
 |none=>E
def Env.skipped(E:Env)(t:Nat):Bool:=
 match Env.look E.l t with
 |some none=>true
 |_=>false
def ev(E:Env):Operand→Value
 | .tmp t=>E.get t
 | .const v=>v
 | .global g=>.pointer (some ⟨g,0,none⟩)
 | .func f=>.func (.func f) #[] #[]
structure Rel(n:Nat)(E:Env)(a:Act):Prop where
 size:a.tmps.size=n
 get:∀t,a.tmps.getD t undef=E.get t
 defs:a.defers=E.ds.map λd=>{target:=.collected d,args:=#[]}
theorem Rel.ev{n:Nat}{E:Env}{a:Act}(h:Rel n E a):a.eval=ev E:=by
 funext x
 cases x with
 |tmp t=>exact h.get t
 |const v=>rfl
 |global g=>rfl
 |func f=>rfl
theorem Env.get_put(E:Env)(d:Nat)(v:Value)(t:Nat):(E.put (some d) v).get t=if d=t then v else E.get t:=by
 by_cases h:d=t
 ·subst h;simp[Env.get,Env.put,Env.look]
 ·have:Nat.beq d t=false:=by
   cases hb:Nat.beq d t with
   |false=>rfl
   |true=>exact absurd (Nat.eq_of_beq_eq_true hb) h
  simp[Env.get,Env.put,Env.look,this,h]
theorem Env.get_skip(E:Env)(d:Nat)(t:Nat):(E.skip (some d)).get t=if d=t then undef else E.get t:=by
 by_cases h:d=t
 ·subst h;simp[Env.get,Env.skip,Env.look]
 ·have:Nat.beq d t=false:=by
   cases hb:Nat.beq d t with
   |false=>rfl
   |true=>exact absurd (Nat.eq_of_beq_eq_true hb) h
  simp[Env.get,Env.skip,Env.look,this,h]
def dstOk(n:Nat):Option Nat→Bool
 |some d=>Nat.blt d n
 |none=>true
theorem getD_set(xs:Array Value)(d t:Nat)(v:Value)(h:d<xs.size):(xs.setIfInBounds d v).getD t undef=if d=t then v else xs.getD t undef:=by
 by_cases hd:d=t
 ·subst hd;simp[h]
 ·simp[hd]
theorem Rel.put{n:Nat}{E:Env}{a:Act}(h:Rel n E a){d:Option Nat}(hd:dstOk n d=true)(v:Value):Rel n (E.put d v) (a.put d v):=by
 cases d with
 |none=>exact h
 |some d=>
  have hlt:d<a.tmps.size:=by rw[h.size];simpa [dstOk,Nat.blt_eq]using hd
  refine⟨by simp[Act.put,h.size],λt=>?_,h.defs⟩
  rw[Env.get_put]
  simp only[Act.put]
  rw[getD_set _ _ _ _ hlt,h.get]
theorem Rel.skip{n:Nat}{E:Env}{a:Act}(h:Rel n E a){d:Option Nat}(hd:dstOk n d=true):Rel n (E.skip d) (a.put d undef):=by
 cases d with
 |none=>exact h
 |some d=>
  have hlt:d<a.tmps.size:=by rw[h.size];simpa [dstOk,Nat.blt_eq]using hd
  refine⟨by simp[Act.put,h.size],λt=>?_,h.defs⟩
  rw[Env.get_skip]
  simp only[Act.put]
  rw[getD_set _ _ _ _ hlt,h.get]
theorem Rel.of_get{n:Nat}{E E' :Env}{a:Act}(h:Rel n E a)(hg:∀t,E'.get t=E.get t)(hd:E'.ds=E.ds):Rel n E' a:=
 ⟨h.size,λt=>(h.get t).trans (hg t).symm,by rw[hd];exact h.defs⟩
def isC:Operand→Bool
 | .const _=>true
 |_=>false
def eqG(op:BinOp)(t:TypeId)(c:Bool)(a b:Value):Sem Unit:=do
 if !(op matches .eql| .neq)then return
 match a,b with
 | .nilIface,.nilIface=>
  if c then return
  if←Op.eqGuardIn Op.maxDepth t a b then unsupported (.noEntry "binop/eql: two nil values of an interface type with methods, neither of them the literal nil")
 | .agg _,.agg _=>
  if !(←program).eqGuardType (←program).depth t then return
  if←Op.eqGuardIn Op.maxDepth t a b then unsupported (.noEntry "binop/eql: two nil values of an interface type with methods, in a part of a struct or an array")
 |_,_=>pure ()
theorem eqG_eq(op:BinOp)(t:TypeId)(x y:Operand)(a b:Value):eqGuard op t x y a b=eqG op t (isC x||isC y) a b:=by
 unfold eqGuard eqG
 cases x<;>cases y<;>rfl
def bin(op:BinOp)(t:TypeId)(c:Bool)(a b:Value):Sem Value:=do eqG op t c a b;binOp op t a b
def nilK(v:Value)(K:Value→Prop):Prop:=
 match v with
 | .pointer (some a)=>K (.pointer (some a))
 |_=>False
def bigT(P:Program)(t:TypeId):Bool:=Nat.blt 12 (P.cellsOf t)
def bigS(t:TypeId)(x:Value):Sem Value:=Instr.loadAt t x
def bigU(t:TypeId)(x y:Value):Sem Unit:=Instr.storeAt t x y
def bigA(t:TypeId):Sem Value:=Instr.alloc t true (.tuple #[])
def bigB(t:TypeId)(parts:Array (Nat×Value)):Sem Value:=Instr.build t parts
def xAppend(ts:Array TypeId)(t:TypeId)(args:List Value):Sem Value:=Builtin.append_ ts t ⟨args⟩
def xCopy(ts:Array TypeId)(t:TypeId)(args:List Value):Sem Value:=Builtin.copy_ ts t ⟨args⟩
def xDelete(ts:Array TypeId)(t:TypeId)(args:List Value):Sem Value:=Builtin.delete_ ts t ⟨args⟩
def xClear(ts:Array TypeId)(t:TypeId)(args:List Value):Sem Value:=Builtin.clear_ ts t ⟨args⟩
def xMake(t:TypeId)(l c:Value):Sem Value:=Instr.makeSlice t l c
def xLit(t:TypeId)(n:Nat)(parts:List (Nat×Value)):Sem Value:=Instr.buildSlice t n ⟨parts⟩
def xConv(s d:TypeId)(x:Value):Sem Value:=convert s d x
def xLook(t:TypeId)(m k:Value)(ok:Bool):Sem Value:=Instr.lookup t m k ok
def xMapUp(t:TypeId)(m k v:Value):Sem Unit:=Instr.mapUpdate t m k v
def xRange(t:TypeId)(x:Value):Sem Value:=Instr.range t x
def xNext(it:Value)(s:Bool)(t:TypeId):Sem Value:=Instr.next it s t
def xEntry(it:Value):Sem Value:=Instr.entry it
def xMapEnt(t:TypeId)(m k:Value):Sem Value:=Instr.mapEntry t m k
def xEntSt(t:TypeId)(m s v:Value):Sem Unit:=Instr.entryStore t m s v
def slConv(P:Program)(s d:TypeId):Bool:=
 (match P.underlying s with|some (.slice _)=>true|_=>false)||(match P.underlying d with|some (.slice _)=>true|_=>false)
def noBody(P:Program)(f:FuncId):Bool:=match (P.funcs[f]?).bind (·.body)with|none=>true|some _=>false
structure rnx(P:Program)(f:FuncId)(args:List Value)(w:World)(K:Kont):Prop where
 out:rn P (callFunc f ⟨args⟩) w K
def argsOf(ρ:Operand→Value)(xs:Array Operand):List Value:=xs.toList.map ρ
def wOp(P:Program)(ρ:Operand→Value)(o:Oper)(w:World)(K:Kont):Prop:=
 match o.op with
 | .move x| .assign x=>K (ρ x) w
 | .pick c x y=>isB (ρ c) λb=>K (selV b (ρ x) (ρ y)) w
 | .alloc elem=>match bigT P elem with
  |true=>rx P (bigA elem) w K
  |false=>rv P (Instr.alloc elem true (.tuple #[])) w K
 | .box elem x=>rv P (Instr.box elem (ρ x)) w K
 | .build t parts=>match bigT P t with
  |true=>rx P (bigB t ⟨parts.toList.map λp=>(p.1,ρ p.2)⟩) w K
  |false=>rv P (Instr.build t ⟨parts.toList.map λp=>(p.1,ρ p.2)⟩) w K
 | .buildSlice t len parts=>rx P (xLit t len (parts.toList.map λp=>(p.1,ρ p.2))) w K
 | .load t x=>match bigT P t with
  |true=>rx P (bigS t (ρ x)) w K
  |false=>rv P (Instr.loadAt t (ρ x)) w K
 | .store t x y=>match bigT P t with
  |true=>rux P (bigU t (ρ x) (ρ y)) w (K undef)
  |false=>ru P (Instr.storeAt t (ρ x) (ρ y)) w (K undef)
 | .binOp op t x y _=>rv P (bin op t (isC x||isC y) (ρ x) (ρ y)) w K
 | .unOp op _ x=>rv P (Op.unary op (ρ x)) w K
 | .convert s d x=>match slConv P s d with
  |true=>rx P (xConv s d (ρ x)) w K
  |false=>rv P (convert s d (ρ x)) w K
 | .sliceToArrayPointer t x=>rv P (Instr.arrayAt t (ρ x)) w K
 | .makeInterface t x=>rv P (Instr.makeInterface t (ρ x)) w K
 | .makeFunc fn first captured=>K (.func fn ⟨argsOf ρ first⟩ ⟨argsOf ρ captured⟩) w
 | .makeMap t r=>rv P (Instr.makeMap t (r.map ρ)) w K
 | .makeSlice t l c=>rx P (xMake t (ρ l) (ρ c)) w K
 | .slice t x lo hi mx=>rv P (Instr.sliceAt t (ρ x) (lo.map ρ) (hi.map ρ) (mx.map ρ)) w K
 | .fieldAddr t x f=>rv P (Instr.fieldAt t (ρ x) f) w K
 | .field t x f=>rv P (Instr.field t (ρ x) f) w K
 | .indexAddr t x i=>rv P (Instr.indexAt t (ρ x) (ρ i)) w K
 | .index t x i=>rv P (Instr.index t (ρ x) (ρ i)) w K
 | .lookup t x i ok=>rx P (xLook t (ρ x) (ρ i) ok) w K
 | .mapUpdate t m k x| .insert t m k x=>rux P (xMapUp t (ρ m) (ρ k) (ρ x)) w (K undef)
 | .range t x=>rx P (xRange t (ρ x)) w K
 | .next it s=>rx P (xNext (ρ it) s o.type) w K
 | .entry it=>rx P (xEntry (ρ it)) w K
 | .mapEntry t m k=>rx P (xMapEnt t (ρ m) (ρ k)) w K
 | .entryStore t m s x=>rux P (xEntSt t (ρ m) (ρ s) (ρ x)) w (K undef)
 | .typeAssert x t u ok=>rv P (Instr.typeAssert (ρ x) t u ok) w K
 | .extract t i=>rv P (Instr.extract (ρ t) i) w K
 | .call c=>
  match c.callee with
  | .value (.func f)=>match noBody P f with
   |true=>rnx P f (argsOf ρ c.args) w K
   |false=>Ca P f ⟨argsOf ρ c.args⟩ w K
  | .value f=>callV P (ρ f) (argsOf ρ c.args) w K
  | .builtin .append=>rx P (xAppend c.argTypes o.type (argsOf ρ c.args)) w K
  | .builtin .copy=>rx P (xCopy c.argTypes o.type (argsOf ρ c.args)) w K
  | .builtin .delete=>rx P (xDelete c.argTypes o.type (argsOf ρ c.args)) w K
  | .builtin .clear=>rx P (xClear c.argTypes o.type (argsOf ρ c.args)) w K
  | .builtin b=>rn P (builtin b c.argTypes o.type ⟨c.args.toList.map isC⟩ ⟨argsOf ρ c.args⟩) w K
  | .invoke _ _=>rn P (execOp ρ o) w K
 | .nilCheck x=>nilK (ρ x) λv=>K v w
 | .defer _| .go _| .select .. | .panic _=>False
 |_=>rn P (execOp ρ o) w K
theorem rn_of_rv{P:Program}{s:Sem Value}{w:World}{K:Kont}(h:rv P s w K):rn P (do pure (.value (←s))) w K:=by
 rw[rv_iff]at h
 unfold rvD at h
 rw[rn_iff]
 unfold rnD
 simp only[Sem.run_bind,Sem.run_pure]
 cases hr:s.run P w with
 |ok v w' =>rw[hr]at h;simpa [Result.andThen]using h
 |halt x w' =>rw[hr]at h;exact h.elim
theorem rn_of_ru{P:Program}{s:Sem Unit}{w:World}{K:Kont}(h:ru P s w (K undef)):rn P (do s;pure .skip) w K:=by
 rw[ru_iff]at h
 unfold ruD at h
 rw[rn_iff]
 unfold rnD
 simp only[Sem.run_bind,Sem.run_pure]
 cases hr:s.run P w with
 |ok v w' =>rw[hr]at h;simpa [Result.andThen]using h
 |halt x w' =>rw[hr]at h;exact h.elim
theorem Ca.bodied{P:Program}{f:FuncId}{args:Array Value}{w:World}{K:Kont}(h:Ca P f args w K):∃fn,P.funcs[f]? =some fn∧fn.body.isSome=true:=by
 apply Classical.byContradiction
 intro hn
 obtain⟨e,w',fr,⟨v,rfl,_⟩,hc,_,hl⟩:=h.out []
 have hno:((P.funcs[f]?).bind (·.body))=none:=by
  cases hf:P.funcs[f]? with
  |none=>rfl
  |some fn=>
   cases hb:fn.body with
   |none=>simp[hb]
   |some c=>exact absurd ⟨fn,hf,by simp[hb]⟩ hn
 obtain⟨r,hs⟩:∃r,step P (lone (Frame.enter P f args .normal) [] w)=.ended r w:=by
  refine⟨?r,step_lone_ended ?h⟩
  case h=>
   simp only[stepG,stepG.exec,Frame.enter,hno]
   exact rfl
 obtain⟨n,hn'⟩:=(hc:Steps P _ _)
 cases n with
 |zero=>
  simp only[runN]at hn'
  injection hn' with hm
  have hfr:Frame.enter P f args .normal=fr:=by
   have:=congrArg (λm=>(m.gs[0]?).map (·.frame)) hm
   simpa [lone]using this
  have hmode:=hl.1
  rw[←hfr]at hmode
  simp[Frame.enter]at hmode
 |succ n=>simp[runN,hs]at hn'
theorem rn_callFunc{P:Program}(hP:NoNum P=true){f:FuncId}{args:Array Value}{w:World}{K:Kont}(h:Ca P f args w K):rn P (callFunc f args) w K:=by
 obtain⟨fn,hf,hb⟩:=h.bodied
 have hname:(fn.name== "runtime.NumGoroutine")=false:=by
  have:=(Array.all_eq_true'.1 hP) fn (Array.mem_of_getElem? hf)
  simpa using this
 have hnone:fn.body.isNone=false:=by cases hh:fn.body<;>simp_all
 rw[rn_iff]
 unfold rnD
 have:(callFunc f args).run P w=.ok (.enter f args) w:=by
  have hname' :¬fn.name= "runtime.NumGoroutine" :=by simpa using hname
  have hnone' :¬fn.body=none:=by intro hh;rw[hh]at hb;exact absurd hb (by simp)
  unfold callFunc
  simp[Sem.run_bind,Result.andThen,hf,hname',hnone']
 rw[this]
 exact h
theorem argsOf_eq(ρ:Operand→Value)(xs:Array Operand):(⟨argsOf ρ xs⟩:Array Value)=xs.map ρ:=by
 apply Array.ext'
 simp[argsOf]
theorem rn_callV{P:Program}(hP:NoNum P=true){fv:Value}{args:List Value}{w:World}{K:Kont}(h:callV P fv args w K):
  rn P (do let d←Deferred.ofValue fv ⟨args⟩;invoke d.target d.args) w K:=by
 rw[callV_iff]at h
 unfold callD at h
 split at h
 ·rename_i f first captured
  have e:(do let d←Deferred.ofValue (.func (.func f) first captured) ⟨args⟩;invoke d.target d.args:Sem Next)=callFunc f (first++⟨args⟩++captured):=rfl
  rw[e]
  have e2:(first++⟨args⟩++captured:Array Value)=⟨first.toList++(args++captured.toList)⟩:=by
   apply Array.ext';simp
  rw[e2]
  exact rn_callFunc hP h
 ·rename_i l first captured
  have e:(do let d←Deferred.ofValue (.func (.yield l) first captured) ⟨args⟩;invoke d.target d.args:Sem Next)=Instr.yield l (first++⟨args⟩):=rfl
  rw[e]
  have e2:(first++⟨args⟩:Array Value)=⟨first.toList++args⟩:=by
   apply Array.ext';simp
  rw[e2]
  obtain⟨fn,tmps,assign,body,h1,h2⟩:=h
  rw[rn_iff]
  unfold rnD
  rw[h1]
  exact h2
 ·exact h.elim
theorem wOp_sound{P:Program}(hP:NoNum P=true){ρ:Operand→Value}(hρ:∀f,ρ (.func f)=.func (.func f) #[] #[]){o:Oper}{w:World}{K:Kont}(h:wOp P ρ o w K):
  rn P (execOp ρ o) w K:=by
 obtain⟨dst,op,type,pos,after,guard⟩:=o
 unfold wOp at h
 cases op<;>simp only at h
 case move x=>exact rn_iff.2 h
 case assign x=>exact rn_iff.2 h
 case pick c x y=>
  unfold isB at h
  split at h
  ·rename_i b hb
   simp only[execOp,hb,rn_iff,rnD,asBool,Sem.run_bind,Sem.run_pure,Result.andThen]
   rw[selV_eq]at h
   exact h
  ·exact h.elim
 case alloc t=>
  split at h
  ·exact rn_of_rv h.out
  ·exact rn_of_rv h
 case load t x=>
  split at h
  ·exact rn_of_rv h.out
  ·exact rn_of_rv h
 case convert s d x=>
  split at h
  ·exact rn_of_rv h.out
  ·exact rn_of_rv h
 case build t ps=>
  have h:rv P (Instr.build t ⟨ps.toList.map λp=>(p.1,ρ p.2)⟩) w K:=by
   split at h
   ·exact h.out
   ·exact h
  have e:(⟨ps.toList.map λp=>(p.1,ρ p.2)⟩:Array (Nat×Value))=ps.map λ(i,x)=>(i,ρ x):=by
   apply Array.ext';simp
  rw[e]at h
  exact rn_of_rv h
 case buildSlice t n ps=>
  have h:rv P (Instr.buildSlice t n ⟨ps.toList.map λp=>(p.1,ρ p.2)⟩) w K:=h.out
  have e:(⟨ps.toList.map λp=>(p.1,ρ p.2)⟩:Array (Nat×Value))=ps.map λ(i,x)=>(i,ρ x):=by
   apply Array.ext';simp
  rw[e]at h
  exact rn_of_rv h
 case binOp op t x y yt=>
  have e:(do eqGuard op t x y (ρ x) (ρ y);binOp op t (ρ x) (ρ y):Sem Value)=bin op t (isC x||isC y) (ρ x) (ρ y):=by
   unfold bin;rw[eqG_eq]
  have:=rn_of_rv h
  rw[←e]at this
  exact this
 case makeFunc fn first captured=>
  rw[argsOf_eq,argsOf_eq]at h
  exact rn_iff.2 h
 case store t x y=>
  split at h
  ·exact rn_of_ru h.out
  ·exact rn_of_ru h
 case nilCheck x=>
  unfold nilK at h
  split at h
  ·rename_i a ha
   simp only[execOp,ha,rn_iff,rnD,Sem.run_pure]
   exact h
  ·exact h.elim
 case mapUpdate t m k x=>exact rn_of_ru h.out
 case insert t m k x=>exact rn_of_ru h.out
 case entryStore t m s x=>exact rn_of_ru h.out
 case call c=>
  obtain⟨callee,args,argTypes⟩:=c
  cases callee with
  |value f=>
   have key:callV P (ρ f) (argsOf ρ args) w K→rn P (execOp ρ ⟨dst,.call ⟨.value f,args,argTypes⟩,type,pos,after,guard⟩) w K:=by
    intro h
    have:=rn_callV hP h
    rw[argsOf_eq]at this
    exact this
   cases f with
   |func g=>
    simp only at h
    have this:rn P (callFunc g ⟨argsOf ρ args⟩) w K:=by
     split at h
     ·exact h.out
     ·exact rn_callFunc hP h
    rw[argsOf_eq]at this
    have e:(execOp ρ ⟨dst,.call ⟨.value (.func g),args,argTypes⟩,type,pos,after,guard⟩:Sem Next)=(do let d←Deferred.ofValue (ρ (.func g)) (args.map ρ);invoke d.target d.args):=rfl
    rw[e,hρ g]
    have e3:(do let d←Deferred.ofValue (.func (.func g) #[] #[]) (args.map ρ);invoke d.target d.args:Sem Next)=callFunc g (#[]++args.map ρ++ #[]):=rfl
    rw[e3]
    simpa using this
   |tmp t=>exact key h
   |const v=>exact key h
   |global g=>exact key h
  |builtin b=>
   have key:rn P (builtin b argTypes type ⟨args.toList.map isC⟩ ⟨argsOf ρ args⟩) w K:=by
    cases b<;>first|exact h|exact rn_of_rv h.out
   have h:=key
   rw[argsOf_eq]at h
   have e:(⟨args.toList.map isC⟩:Array Bool)=args.map λ| .const _=>true|_=>false:=by
    apply Array.ext'
    simp only[Array.toList_map]
    apply List.map_congr_left
    intro x _
    cases x<;>rfl
   rw[e]at h
   exact h
  |invoke r m=>exact h
 all_goals first|exact rn_of_rv h|exact rn_of_rv h.out|exact h|exact h.elim
end Go.Vc
namespace Go.Vc
open Go
def FR:Option Nat→Fence
 |none=>Fence.wide
 |some l=>Fence.wide.inRound l
theorem FR.fn(ro:Option Nat)(f:FuncId):(FR ro).fn f:=by cases ro<;>exact trivial
theorem FR.round(ro:Option Nat):(FR ro).round=ro:=by cases ro<;>rfl
theorem FR.depth(ro:Option Nat):(FR ro).depth=none:=by cases ro<;>rfl
theorem FR.calls{ro:Option Nat}{n:Nat}{P:Program}{f:FuncId}{args:Array Value}{w:World}{R:Ending→World→Prop}(h:Calls P f args w R):CallsIn (FR ro) n P f args w R:=by
 cases ro with
 |none=>exact callsIn_wide.2 h
 |some l=>exact(callsIn_wide (n:=n)).2 h
theorem FR.roundIn{ro:Option Nat}{n m:Nat}{P:Program}{l:Nat}{f:FuncId}{tmps:Array Value}{assign body:Code}{w:World}{R:Ending→World→Prop}
  (h:RoundIn Fence.wide m P l f tmps assign body w R):RoundIn (FR ro) n P l f tmps assign body w R:=by
 cases ro with
 |none=>exact⟨h.1,λc cs _=>h.2 c cs (room_wide _)⟩
 |some l=>exact⟨h.1,λc cs _=>h.2 c cs (room_wide _)⟩
def noDefer:Op→Bool
 | .defer _| .go _| .select .. =>false
 |_=>true
theorem wpIn_of_rn{P:Program}{ro:Option Nat}{o:Oper}{a:Act}{w:World}{K:Kont}{next:Act→World→Prop}{Q:Exit→Act→World→Prop}{ρ:Operand→Value}
  (hd:noDefer o.op=true)(he:execOp a.eval o=execOp ρ o)(h:rn P (execOp ρ o) w K)(hK:∀v w',K v w' →next (a.put o.dst v) w'):o.wpIn (FR ro) 0 P a w next Q:=by
 refine⟨λf _=>FR.fn ro f,?_⟩
 rw[FR.round,Oper.semAt_eq ro a.eval o (λc hc=>by rw[hc]at hd;cases hd),he]
 rw[rn_iff]at h
 unfold rnD at h
 split at h
 ·rename_i hr;rw[hr];exact hK _ _ h
 ·rename_i hr;rw[hr];exact hK _ _ h
 ·rename_i hr;rw[hr]
  refine⟨(λhh=>by rw[FR.depth]at hh;cases hh),FR.calls (Calls.mono h.out ?_)⟩
  rintro e w' ⟨v,rfl,hv⟩
  exact hK _ _ hv
 ·rename_i hr;rw[hr]
  refine⟨(λhh=>by rw[FR.depth]at hh;cases hh),FR.roundIn (h.mono ?_)⟩
  rintro e w' ⟨v,rfl,hv⟩
  exact hK _ _ hv
 ·exact h.elim
def gslot(ops:List Oper)(j:Nat):Option Nat:=
 match ops[j]? with
 |some o=>o.dst
 |none=>none
def grd(ops:List Oper)(o:Oper)(E:Env)(yes no:Env→Prop):Prop:=
 match o.guard with
 |none=>yes E
 |some (j,want)=>
  match gslot ops j with
  |none=>no E
  |some s=>
   match E.skipped s with
   |true=>no E
   |false=>isB (E.get s) λb=>bc b
     ((match want with|true=>yes|false=>no) (E.put (some s) (.bool true)))
     ((match want with|true=>no|false=>yes) (E.put (some s) (.bool false)))
def boolOf:Value→Option Bool
 | .bool b=>some b
 |_=>none
def wantedE(ops:List Oper)(E:Env)(o:Oper):Bool:=
 Region.wanted o λj=>(gslot ops j).bind λs=>boolOf (E.get s)
def Env.Same(E E' :Env):Prop:=(∀t,E'.get t=E.get t)∧E'.ds=E.ds
theorem Env.Same.refl(E:Env):E.Same E:=⟨λ_=>rfl,rfl⟩
theorem Env.Same.ev{E E' :Env}(h:E.Same E'):Vc.ev E' =Vc.ev E:=by
 funext x;cases x<;>first|exact h.1 _|rfl
theorem Env.Same.wanted{E E' :Env}(h:E.Same E')(ops:List Oper)(o:Oper):wantedE ops E' o=wantedE ops E o:=by
 unfold wantedE;congr 1;funext j;cases gslot ops j<;>simp[h.1]
theorem Env.same_put{E:Env}{s:Nat}{v:Value}(h:E.get s=v):E.Same (E.put (some s) v):=by
 refine⟨λt=>?_,rfl⟩
 rw[Env.get_put];split
 ·rename_i e;rw[←e,h]
 ·rfl
theorem grd_cases{ops:List Oper}{o:Oper}{E:Env}{yes no:Env→Prop}(h:grd ops o E yes no):
  (wantedE ops E o=true∧∃E',E.Same E' ∧yes E')∨(wantedE ops E o=false∧∃E',E.Same E' ∧no E'):=by
 unfold grd at h
 unfold wantedE Region.wanted
 cases hg:o.guard with
 |none=>rw[hg]at h;exact .inl ⟨rfl,E,.refl E,h⟩
 |some g=>
  obtain⟨j,want⟩:=g
  rw[hg]at h
  simp only at h⊢
  cases hs:gslot ops j with
  |none=>rw[hs]at h;exact .inr ⟨rfl,E,.refl E,h⟩
  |some s=>
   rw[hs]at h
   simp only at h
   cases hk:E.skipped s with
   |true=>
    rw[hk]at h
    have hu:E.get s=undef:=by
     unfold Env.skipped at hk
     unfold Env.get
     split at hk
     ·rename_i hl;rw[hl]
     ·cases hk
    exact .inr ⟨by simp[hu,undef,boolOf],E,.refl E,h⟩
   |false=>
    rw[hk]at h
    simp only[isB]at h
    split at h
    ·rename_i b hb
     cases b with
     |true=>
      cases want with
      |true=>exact .inl ⟨by simp[hb,boolOf],_,Env.same_put hb,h⟩
      |false=>exact .inr ⟨by simp[hb,boolOf],_,Env.same_put hb,h⟩
     |false=>
      cases want with
      |true=>exact .inr ⟨by simp[hb,boolOf],_,Env.same_put hb,h⟩
      |false=>exact .inl ⟨by simp[hb,boolOf],_,Env.same_put hb,h⟩
    ·exact h.elim
theorem yielded_eq{ops:List Oper}{a:Act}{E:Env}{o:Oper}(h:∀t,t∈o.looksAt ops.toArray→a.tmps.getD t undef=E.get t):
  Region.wanted o (yielded ops.toArray a.tmps)=wantedE ops E o:=by
 unfold wantedE Region.wanted
 cases hg:o.guard with
 |none=>rfl
 |some g=>
  obtain⟨j,want⟩:=g
  simp only
  congr 1
  unfold yielded gslot
  cases ho:ops[j]? with
  |none=>simp[ho]
  |some oj=>
   cases hd:oj.dst with
   |none=>simp[ho,hd]
   |some s=>
    have hm:s∈o.looksAt ops.toArray:=by
     unfold Oper.looksAt
     rw[hg]
     simp[ho,hd]
    have:=h s hm
    simp only[List.getElem?_toArray,ho,Option.bind_some,hd]
    rw[←this]
    by_cases hlt:s<a.tmps.size
    ·simp only[Array.getElem?_eq_getElem hlt,Array.getD_eq_getD_getElem?,Option.getD_some]
     cases a.tmps[s]<;>rfl
    ·simp[Array.getElem?_eq_none (Nat.le_of_not_lt hlt),undef,boolOf]
theorem execOp_agree{ops:List Oper}{a:Act}{E:Env}{o:Oper}(hd:noDefer o.op=true)(h:∀t,t∈o.looksAt ops.toArray→a.tmps.getD t undef=E.get t):
  execOp a.eval o=execOp (ev E) o:=by
 refine execOp_congr o (λcs b hc=>by rw[hc]at hd;cases hd) λx hx=>?_
 cases x with
 |tmp t=>
  refine h t ?_
  unfold Oper.looksAt
  refine List.mem_append_left _ (List.mem_filterMap.2 ⟨.tmp t,by simpa using hx,rfl⟩)
 |const v=>rfl
 |global g=>rfl
 |func f=>rfl
theorem ev_func(E:Env)(f:FuncId):ev E (.func f)=.func (.func f) #[] #[]:=rfl
theorem wOp_noDefer{P:Program}{ρ:Operand→Value}{o:Oper}{w:World}{K:Kont}(h:wOp P ρ o w K):noDefer o.op=true:=by
 unfold wOp at h
 cases hop:o.op<;>rw[hop]at h<;>first|rfl|exact h.elim
def vcList(P:Program)(ops:List Oper):List Oper→Env→World→(Env→World→Prop)→Prop
 | [],E,w,K=>K E w
 |o::rest,E,w,K=>
  grd ops o E (λE=>wOp P (ev E) o w λv w' =>vcList P ops rest (E.put o.dst v) w' K)
   (λE=>vcList P ops rest (E.skip o.dst) w K)
theorem vcList_sound{P:Program}(hP:NoNum P=true){ro:Option Nat}{n:Nat}{ops:List Oper}{Q:Exit→Act→World→Prop}{K:Env→World→Prop}
  (hK:∀E a w,Rel n E a→K E w→Q .normal a w):∀(l:List Oper),(l.all λo=>dstOk n o.dst)=true→∀(E:Env) (a:Act) (w:World),Rel n E a→
  vcList P ops l E w K→wpListIn (FR ro) 0 P ops.toArray Q l a w:=by
 intro l
 induction l with
 |nil=>exact λ_ E a w hr h=>hK E a w hr h
 |cons o rest ih=>
  intro hl E a w hr h
  simp only[List.all_cons,Bool.and_eq_true]at hl
  unfold wpListIn
  have hlook:∀t,t∈o.looksAt ops.toArray→a.tmps.getD t undef=E.get t:=λt _=>hr.get t
  rw[yielded_eq hlook]
  rcases grd_cases h with⟨hw,E',hs,hy⟩|⟨hw,E',hs,hn⟩
  ·rw[if_pos hw]
   have hr' :Rel n E' a:=hr.of_get hs.1 hs.2
   have hnd:=wOp_noDefer hy
   refine wpIn_of_rn (ρ:=ev E') hnd (by rw[hr'.ev]) (wOp_sound hP (ev_func E') hy) λv w' hv=>?_
   exact ih hl.2 _ _ _ (hr'.put hl.1 v) hv
  ·rw[if_neg (by rw[hw];simp)]
   exact⟨λf _=>FR.fn ro f,ih hl.2 _ _ _ ((hr.of_get hs.1 hs.2).skip hl.1) hn⟩
end Go.Vc
namespace Go.Vc
open Go
def rdWD(P:Program)(s:Sem Value)(w:World)(K:Value→Prop):Prop:=
 match s.run P w with
 | .ok v w' =>w' =w∧K v
 | .halt _ _=>False
structure rdW(P:Program)(s:Sem Value)(w:World)(K:Value→Prop):Prop where
 out:rdWD P s w K
theorem rdW_iff{P:Program}{s:Sem Value}{w:World}{K:Value→Prop}:rdW P s w K↔rdWD P s w K:=⟨rdW.out,rdW.mk⟩
def rdPD(P:Program)(s:Sem Value)(K:Value→Prop):Prop:=∃v,(∀w,s.run P w=.ok v w)∧K v
structure rdP(P:Program)(s:Sem Value)(K:Value→Prop):Prop where
 out:rdPD P s K
theorem rdP_iff{P:Program}{s:Sem Value}{K:Value→Prop}:rdP P s K↔rdPD P s K:=⟨rdP.out,rdP.mk⟩
structure rdX(P:Program)(s:Sem Value)(w:World)(K:Value→Prop):Prop where
 out:rdW P s w K
structure rdPX(P:Program)(s:Sem Value)(K:Value→Prop):Prop where
 out:rdP P s K
def xOp(P:Program):Op→Bool
 | .build t _=>bigT P t
 | .load t _=>bigT P t
 | .lookup .. =>true
 | .convert s d _=>slConv P s d
 |_=>false
def pureSem(P:Program)(ρ:Operand→Value):Op→Option (Sem Value)
 | .binOp op t x y _=>some (bin op t (isC x||isC y) (ρ x) (ρ y))
 | .unOp op _ x=>some (Op.unary op (ρ x))
 | .fieldAddr t x f=>some (Instr.fieldAt t (ρ x) f)
 | .field t x f=>some (Instr.field t (ρ x) f)
 | .indexAddr t x i=>some (Instr.indexAt t (ρ x) (ρ i))
 | .index t x i=>some (Instr.index t (ρ x) (ρ i))
 | .slice t x lo hi mx=>some (Instr.sliceAt t (ρ x) (lo.map ρ) (hi.map ρ) (mx.map ρ))
 | .sliceToArrayPointer t x=>some (Instr.arrayAt t (ρ x))
 | .extract t i=>some (Instr.extract (ρ t) i)
 | .build t parts=>match bigT P t with
  |true=>some (bigB t ⟨parts.toList.map λp=>(p.1,ρ p.2)⟩)
  |false=>some (Instr.build t ⟨parts.toList.map λp=>(p.1,ρ p.2)⟩)
 | .makeInterface t x=>some (Instr.makeInterface t (ρ x))
 |_=>none
def readSem(P:Program)(ρ:Operand→Value)(o:Oper):Option (Sem Value):=
 match o.op with
 | .load t x=>match bigT P t with
  |true=>some (bigS t (ρ x))
  |false=>some (Instr.loadAt t (ρ x))
 | .lookup t x i ok=>some (xLook t (ρ x) (ρ i) ok)
 | .call ⟨.builtin .len,args,ts⟩=>some (Builtin.len_ ts o.type ⟨argsOf ρ args⟩)
 | .call ⟨.builtin .min,args,ts⟩=>some (Builtin.min_ ts o.type ⟨argsOf ρ args⟩)
 | .call ⟨.builtin .max,args,ts⟩=>some (Builtin.max_ ts o.type ⟨argsOf ρ args⟩)
 | .convert s d x=>match P.underlying d with
  |some (.slice _)=>none
  |_=>match slConv P s d with
   |true=>some (xConv s d (ρ x))
   |false=>some (convert s d (ρ x))
 |_=>none
def quickOp:Op→Bool
 | .move _| .pick .. | .nilCheck _| .makeFunc .. =>true
 |_=>false
def quickK(ρ:Operand→Value)(op:Op)(K:Value→Prop):Prop:=
 match op with
 | .move x=>K (ρ x)
 | .pick c x y=>isB (ρ c) λb=>K (selV b (ρ x) (ρ y))
 | .nilCheck x=>nilK (ρ x) K
 | .makeFunc fn first captured=>K (.func fn ⟨argsOf ρ first⟩ ⟨argsOf ρ captured⟩)
 |_=>False
def cls(P:Program)(o:Oper):Nat:=
 match quickOp o.op with
 |true=>0
 |false=>
  match pureSem P (λ_=>undef) o.op with
  |some _=>1
  |none=>
   match readSem P (λ_=>undef) o with
   |some _=>2
   |none=>3
def edgesOn(o:Oper):List Nat:=(o.after.toList.filter λe=>Region.binds .any e).map (·.on)
def depsOf(ops:List Oper)(i:Nat):List Nat:=
 match ops[i]? with
 |some o=>edgesOn o
 |none=>[]
def clo(ops:List Oper):Nat→List Nat→List Nat→List Nat
 |0,_,acc=>acc
 |_+1,[],acc=>acc
 |f+1,x::r,acc=>
  match acc.contains x with
  |true=>clo ops f r acc
  |false=>clo ops f (depsOf ops x++r) (x::acc)
def anc(ops:List Oper)(j:Nat):List Nat:=clo ops 4000 (depsOf ops j) []
abbrev Pend:=List (Nat×Sem Value×Value)
def reval(P:Program)(w:World):Pend→Prop→Prop
 | [],R=>R
 |(_,s,v)::r,R=>s.run P w=.ok v w∧reval P w r R
def allL(F:Nat→Prop):List Nat→Prop
 | []=>True
 | [j]=>F j
 |j::r=>F j∧allL F r
def rdyB(ops:List Oper)(done:List Nat)(i:Nat):Bool:= !done.contains i&& (depsOf ops i).all λd=>done.contains d
def rdy(ops:List Oper)(done:List Nat):List Nat:=(List.range ops.length).filter (rdyB ops done)
def isRd(P:Program)(ops:List Oper)(i:Nat):Bool:=
 match ops[i]? with
 |some o=>Nat.blt (cls P o) 3
 |none=>false
def vcD(P:Program)(ops:List Oper):Nat→List Nat→Pend→Env→World→(Env→World→Prop)→Prop
 |0,_,_,_,_,_=>False
 |fuel+1,done,pend,E,w,K=>
  match (rdy ops done).find? (isRd P ops)with
  |some i=>
   match ops[i]? with
   |none=>False
   |some o=>
    grd ops o E (λE=>
     match cls P o with
     |0=>quickK (ev E) o.op λv=>vcD P ops fuel (i::done) pend (E.put o.dst v) w K
     |1=>match pureSem P (ev E) o.op with
      |some s=>match xOp P o.op with
       |true=>rdPX P s λv=>vcD P ops fuel (i::done) pend (E.put o.dst v) w K
       |false=>rdP P s λv=>vcD P ops fuel (i::done) pend (E.put o.dst v) w K
      |none=>False
     |_=>match readSem P (ev E) o with
      |some s=>match xOp P o.op with
       |true=>rdX P s w λv=>vcD P ops fuel (i::done) ((i,s,v)::pend) (E.put o.dst v) w K
       |false=>rdW P s w λv=>vcD P ops fuel (i::done) ((i,s,v)::pend) (E.put o.dst v) w K
      |none=>False)
     (λE=>vcD P ops fuel (i::done) pend (E.skip o.dst) w K)
  |none=>
   match rdy ops done with
   | []=>K E w
   |rs=>allL (λj=>
    match ops[j]? with
    |none=>False
    |some o=>
     grd ops o E (λE=>wOp P (ev E) o w λv w' =>reval P w' (pend.filter λp=> !(anc ops j).contains p.1) (vcD P ops fuel (j::done) (pend.filter λp=> !(anc ops j).contains p.1) (E.put o.dst v) w' K))
      (λE=>vcD P ops fuel (j::done) (pend.filter λp=> !(anc ops j).contains p.1) (E.skip o.dst) w K)) rs
def regOk(P:Program)(ops:List Oper):Bool:=
 (List.range ops.length).all λi=>match ops[i]? with
  |none=>false
  |some oi=>noDefer oi.op&& (!Nat.blt (cls P oi) 3||((match oi.dst with|none=>true|some d=> !(oi.looksAt ops.toArray).contains d)&& (List.range ops.length).all λj=>Nat.beq i j||match ops[j]? with
   |none=>false
   |some oj=>
    (match oi.dst with
    |none=>true
    |some d=>oj.dst != some d&& (!(oj.looksAt ops.toArray).contains d||(anc ops j).contains i))&&
    (match oj.dst with
    |none=>true
    |some d=> !(oi.looksAt ops.toArray).contains d||(anc ops i).contains j||(anc ops j).contains i)))
theorem regOk_noDefer{P:Program}{ops:List Oper}(h:regOk P ops=true){i:Nat}{o:Oper}(hi:ops[i]? =some o):noDefer o.op=true:=by
 unfold regOk at h
 have hlt:i<ops.length:=(List.getElem?_eq_some_iff.1 hi).1
 have:=List.all_eq_true.1 h i (List.mem_range.2 hlt)
 rw[hi]at this
 simp only[Bool.and_eq_true]at this
 exact this.1
theorem regOk_self{P:Program}{ops:List Oper}(h:regOk P ops=true){i:Nat}{o:Oper}(hi:ops[i]? =some o)(hc:cls P o<3){d:Nat}(hd:o.dst=some d):
  d ∉ o.looksAt ops.toArray:=by
 unfold regOk at h
 have hlt:i<ops.length:=(List.getElem?_eq_some_iff.1 hi).1
 have:=List.all_eq_true.1 h i (List.mem_range.2 hlt)
 rw[hi]at this
 have hb:Nat.blt (cls P o) 3=true:=by simpa [Nat.blt_eq]using hc
 simp only[hb,hd,Bool.and_eq_true,Bool.not_true,Bool.false_or]at this
 simpa using this.2.1
theorem regOk_pair{P:Program}{ops:List Oper}(h:regOk P ops=true){i j:Nat}{oi oj:Oper}(hi:ops[i]? =some oi)(hj:ops[j]? =some oj)(hc:cls P oi<3)(hne:i≠j):
  (∀d,oi.dst=some d→oj.dst≠some d∧(d∈oj.looksAt ops.toArray→i∈anc ops j))∧
  (∀d,oj.dst=some d→d∈oi.looksAt ops.toArray→j∈anc ops i∨i∈anc ops j):=by
 unfold regOk at h
 have hlt:i<ops.length:=(List.getElem?_eq_some_iff.1 hi).1
 have hltj:j<ops.length:=(List.getElem?_eq_some_iff.1 hj).1
 have:=List.all_eq_true.1 h i (List.mem_range.2 hlt)
 rw[hi]at this
 have hb:Nat.blt (cls P oi) 3=true:=by simpa [Nat.blt_eq]using hc
 simp only[hb,Bool.and_eq_true,Bool.not_true,Bool.false_or]at this
 have h2:=List.all_eq_true.1 this.2.2 j (List.mem_range.2 hltj)
 have hbeq:Nat.beq i j=false:=by
  cases hh:Nat.beq i j with
  |false=>rfl
  |true=>exact absurd (Nat.eq_of_beq_eq_true hh) hne
 rw[hj,hbeq]at h2
 simp only[Bool.false_or,Bool.and_eq_true]at h2
 refine⟨λd hd=>?_,λd hd hm=>?_⟩
 ·have h3:=h2.1
  rw[hd]at h3
  simp only[Bool.and_eq_true,bne_iff_ne,ne_eq,Bool.or_eq_true]at h3
  refine⟨h3.1,λhm=>?_⟩
  rcases h3.2 with h4|h4
  ·simp at h4;exact absurd hm h4
  ·simpa using h4
 ·have h3:=h2.2
  rw[hd]at h3
  simp only[Bool.or_eq_true]at h3
  rcases h3 with(h4|h4)|h4
  ·simp at h4;exact absurd hm h4
  ·exact .inl (by simpa using h4)
  ·exact .inr (by simpa using h4)
def Closed(ops:List Oper)(L:List Nat):Prop:=∀i∈L,∀d∈depsOf ops i,d∈L
theorem clo_sub{ops:List Oper}{L:List Nat}(hL:Closed ops L):∀(f:Nat) (fr acc:List Nat),(∀x∈fr,x∈L)→(∀x∈acc,x∈L)→∀x∈clo ops f fr acc,x∈L:=by
 intro f
 induction f with
 |zero=>intro fr acc _ ha x hx;exact ha x hx
 |succ f ih=>
  intro fr acc hf ha x hx
  cases fr with
  |nil=>exact ha x hx
  |cons y r=>
   simp only[clo]at hx
   split at hx
   ·exact ih r acc (λz hz=>hf z (List.mem_cons_of_mem _ hz)) ha x hx
   ·refine ih _ _ (λz hz=>?_) (λz hz=>?_) x hx
    ·rcases List.mem_append.1 hz with hz|hz
     ·exact hL y (hf y List.mem_cons_self) z hz
     ·exact hf z (List.mem_cons_of_mem _ hz)
    ·rcases List.mem_cons.1 hz with rfl|hz
     ·exact hf z List.mem_cons_self
     ·exact ha z hz
theorem anc_sub{ops:List Oper}{L:List Nat}(hL:Closed ops L){j:Nat}(hj:∀d∈depsOf ops j,d∈L):∀x∈anc ops j,x∈L:=
 clo_sub hL 4000 _ _ hj (λ_ h=>by cases h)
theorem Closed.cons{ops:List Oper}{L:List Nat}(hL:Closed ops L){j:Nat}(hj:∀d∈depsOf ops j,d∈L):Closed ops (j::L):=by
 intro i hi d hd
 rcases List.mem_cons.1 hi with rfl|hi
 ·exact List.mem_cons_of_mem _ (hj d hd)
 ·exact List.mem_cons_of_mem _ (hL i hi d hd)
theorem rdyB_iff{ops:List Oper}{done:List Nat}{i:Nat}:rdyB ops done i=true↔i ∉ done∧∀d∈depsOf ops i,d∈done:=by
 simp[rdyB]
theorem mem_rdy{ops:List Oper}{done:List Nat}{i:Nat}:i∈rdy ops done↔i<ops.length∧i ∉ done∧∀d∈depsOf ops i,d∈done:=by
 simp[rdy,List.mem_filter,rdyB_iff]
theorem run_value(P:Program)(s:Sem Value)(w:World)(v:Value)(w' :World)(h:s.run P w=.ok v w'):(do pure (.value (←s)):Sem Next).run P w=.ok (.value v) w' :=by
 simp[Sem.run_bind,h,Result.andThen]
theorem quickK_sound{P:Program}{ρ:Operand→Value}{o:Oper}{K:Value→Prop}(h:quickK ρ o.op K):
  ∃v,(∀w,(execOp ρ o).run P w=.ok (.value v) w)∧K v:=by
 obtain⟨dst,op,type,pos,after,guard⟩:=o
 unfold quickK at h
 cases op<;>simp only at h<;>first|exact h.elim|skip
 case move x=>exact⟨_,λ_=>rfl,h⟩
 case pick c x y=>
  unfold isB at h
  split at h
  ·rename_i b hb
   refine⟨_,λw=>?_,h⟩
   simp only[execOp,hb,asBool,Sem.run_bind,Sem.run_pure,Result.andThen,selV_eq]
  ·exact h.elim
 case nilCheck x=>
  unfold nilK at h
  split at h
  ·rename_i a ha
   exact⟨_,λw=>by simp only[execOp,ha,Sem.run_pure],h⟩
  ·exact h.elim
 case makeFunc fn first captured=>
  rw[argsOf_eq,argsOf_eq]at h
  exact⟨_,λ_=>rfl,h⟩
theorem pureSem_exec{P:Program}{ρ:Operand→Value}{o:Oper}{s:Sem Value}(h:pureSem P ρ o.op=some s):execOp ρ o=(do pure (.value (←s))):=by
 obtain⟨dst,op,type,pos,after,guard⟩:=o
 unfold pureSem at h
 cases op<;>simp only at h<;>first|(cases h;done)|(cases h;rfl)|skip
 case build t ps=>
  have h:Instr.build t ⟨ps.toList.map λp=>(p.1,ρ p.2)⟩=s:=by
   split at h
   ·exact Option.some.inj h
   ·exact Option.some.inj h
  subst h
  have e:(⟨ps.toList.map λp=>(p.1,ρ p.2)⟩:Array (Nat×Value))=ps.map λ(i,x)=>(i,ρ x):=by
   apply Array.ext';simp
  simp only[execOp]
  rw[e]
theorem readSem_exec{P:Program}{ρ:Operand→Value}{o:Oper}{s:Sem Value}(h:readSem P ρ o=some s):execOp ρ o=(do pure (.value (←s))):=by
 obtain⟨dst,op,type,pos,after,guard⟩:=o
 unfold readSem at h
 cases op<;>simp only at h<;>first|(cases h;done)|(cases h;rfl)|skip
 case load t x=>
  split at h
  ·cases h;rfl
  ·cases h;rfl
 case convert a b x=>
  split at h
  ·cases h
  ·split at h
   ·cases h;rfl
   ·cases h;rfl
 case call c=>
  obtain⟨callee,args,ts⟩:=c
  cases callee with
  |value f=>cases h
  |invoke r m=>cases h
  |builtin b=>
   cases b<;>simp only at h<;>first|(cases h;done)|skip
   all_goals
    rw[argsOf_eq]at h
    cases h
    rfl
def Val(P:Program)(ops:List Oper)(E:Env)(w:World)(pend:Pend)(i:Nat):Prop:=
 ∃o,ops[i]? =some o∧cls P o<3∧
  ((wantedE ops E o=true∧∃v,(∀d,o.dst=some d→E.get d=v)∧(execOp (ev E) o).run P w=.ok (.value v) w∧
    ((∀w',(execOp (ev E) o).run P w' =.ok (.value v) w')∨∃s,(i,s,v)∈pend∧∀w',s.run P w' =.ok v w' →(execOp (ev E) o).run P w' =.ok (.value v) w'))∨
  (wantedE ops E o=false∧∀d,o.dst=some d→E.get d=undef))
def AOrd(ops:List Oper)(L:List Nat):List Nat→Prop
 | []=>True
 |i::A=>(∀d∈depsOf ops i,d∈L∨d∈A)∧AOrd ops L A
theorem AOrd.mono{ops:List Oper}{L L' :List Nat}(h:∀x∈L,x∈L'):∀{A:List Nat},AOrd ops L A→AOrd ops L' A
 | [],_=>trivial
 |_::_,ha=>⟨λd hd=>(ha.1 d hd).imp (h d) id,AOrd.mono h ha.2⟩
theorem AOrd.erase{ops:List Oper}{L:List Nat}{j:Nat}:∀{A:List Nat},AOrd ops L A→AOrd ops (j::L) (A.erase j)
 | [],_=>trivial
 |i::A,ha=>by
  by_cases hij:i=j
  ·subst hij
   rw[List.erase_cons_head]
   exact ha.2.mono (λx hx=>List.mem_cons_of_mem _ hx)
  ·rw[List.erase_cons_tail (by simpa using hij)]
   refine⟨λd hd=>?_,ha.2.erase⟩
   rcases ha.1 d hd with h|h
   ·exact .inl (List.mem_cons_of_mem _ h)
   ·by_cases hdj:d=j
    ·exact .inl (by rw[hdj];exact List.mem_cons_self)
    ·exact .inr ((List.mem_erase_of_ne hdj).2 h)
theorem AOrd.first{ops:List Oper}{L:List Nat}:∀{A:List Nat},AOrd ops L A→A≠ []→∃i∈A,∀d∈depsOf ops i,d∈L
 | [],_,h=>absurd rfl h
 | [i],ha,_=>⟨i,List.mem_cons_self,λd hd=>(ha.1 d hd).resolve_right (by simp)⟩
 |i::k::A,ha,_=>by
  obtain⟨j,hj,hd⟩:=ha.2.first (by simp)
  exact⟨j,List.mem_cons_of_mem _ hj,hd⟩
structure Inv(P:Program)(ops:List Oper)(n:Nat)(L A:List Nat)(done:List Nat)(pend:Pend)(E:Env)(a:Act)(w:World):Prop where
 doneIff:∀i,i∈done↔i∈L∨i∈A
 apart:∀i∈A,i ∉ L
 nodup:A.Nodup
 ord:AOrd ops L A
 closed:Closed ops L
 size:a.tmps.size=n
 defs:a.defers=E.ds.map λd=>{target:=.collected d,args:=#[]}
 frame:∀t,(∀i∈A,∀o,ops[i]? =some o→o.dst≠some t)→a.tmps.getD t undef=E.get t
 val:∀i∈A,Val P ops E w pend i
theorem Inv.closedDone{P:Program}{ops:List Oper}{n:Nat}{L A done:List Nat}{pend:Pend}{E:Env}{a:Act}{w:World}(h:Inv P ops n L A done pend E a w):Closed ops done:=by
 have hA:∀(A:List Nat),AOrd ops L A→∀i∈A,∀d∈depsOf ops i,d∈L∨d∈A:=by
  intro A
  induction A with
  |nil=>intro _ i hi;cases hi
  |cons k A ih=>
   intro ha i hi d hd
   rcases List.mem_cons.1 hi with rfl|hi
   ·exact(ha.1 d hd).imp id (List.mem_cons_of_mem _)
   ·exact(ih ha.2 i hi d hd).imp id (List.mem_cons_of_mem _)
 intro i hi d hd
 rcases(h.doneIff i).1 hi with hi|hi
 ·exact(h.doneIff d).2 (.inl (h.closed i hi d hd))
 ·exact(h.doneIff d).2 (hA A h.ord i hi d hd)
theorem exec_env{P:Program}{ops:List Oper}{E E' :Env}{o:Oper}(hn:noDefer o.op=true)(h:∀t∈o.looksAt ops.toArray,E'.get t=E.get t):
  execOp (ev E') o=execOp (ev E) o∧wantedE ops E' o=wantedE ops E o:=by
 constructor
 ·refine execOp_congr o (λcs b hc=>by rw[hc]at hn;cases hn) λx hx=>?_
  cases x with
  |tmp t=>
   refine h t ?_
   unfold Oper.looksAt
   exact List.mem_append_left _ (List.mem_filterMap.2 ⟨.tmp t,by simpa using hx,rfl⟩)
  |const v=>rfl
  |global g=>rfl
  |func f=>rfl
 ·unfold wantedE Region.wanted
  cases hg:o.guard with
  |none=>rfl
  |some g=>
   obtain⟨j,want⟩:=g
   simp only
   congr 1
   unfold gslot
   cases ho:ops[j]? with
   |none=>rfl
   |some oj=>
    cases hd:oj.dst with
    |none=>simp[hd]
    |some s=>
     simp only[hd,Option.bind_some]
     rw[h s (by unfold Oper.looksAt;rw[hg];simp[ho,hd])]
theorem Val.env{P:Program}{ops:List Oper}(hok:regOk P ops=true){E E' :Env}{w:World}{pend pend' :Pend}{i:Nat}(h:Val P ops E w pend i)
  (hg:∀o,ops[i]? =some o→∀t,t∈o.looksAt ops.toArray∨o.dst=some t→E'.get t=E.get t)(hp:∀x∈pend,x∈pend'):Val P ops E' w pend' i:=by
 obtain⟨o,ho,hc,hv⟩:=h
 have he:=exec_env (P:=P) (ops:=ops) (E:=E) (E' :=E') (regOk_noDefer hok ho) λt ht=>hg o ho t (.inl ht)
 refine⟨o,ho,hc,?_⟩
 rw[he.1,he.2]
 rcases hv with⟨hw,v,hd,hr,hs⟩|⟨hw,hd⟩
 ·refine .inl ⟨hw,v,λd hd' =>(hg o ho d (.inr hd')).trans (hd d hd'),hr,?_⟩
  rcases hs with hs|⟨s,hm,hs⟩
  ·exact .inl hs
  ·exact .inr ⟨s,hp _ hm,hs⟩
 ·exact .inr ⟨hw,λd hd' =>(hg o ho d (.inr hd')).trans (hd d hd')⟩
theorem Val.world{P:Program}{ops:List Oper}{E:Env}{w w' :World}{pend pend' :Pend}{i:Nat}(h:Val P ops E w pend i)
  (hp:∀s v,(i,s,v)∈pend→(i,s,v)∈pend' ∧(w' =w∨s.run P w' =.ok v w')):Val P ops E w' pend' i:=by
 obtain⟨o,ho,hc,hv⟩:=h
 refine⟨o,ho,hc,?_⟩
 rcases hv with⟨hw,v,hd,hr,hs⟩|hv
 ·rcases hs with hs|⟨s,hm,hs⟩
  ·exact .inl ⟨hw,v,hd,hs w',.inl hs⟩
  ·refine .inl ⟨hw,v,hd,?_,.inr ⟨s,(hp s v hm).1,hs⟩⟩
   rcases(hp s v hm).2 with e|e
   ·rw[e];exact hr
   ·exact hs w' e
 ·exact .inr hv
end Go.Vc
