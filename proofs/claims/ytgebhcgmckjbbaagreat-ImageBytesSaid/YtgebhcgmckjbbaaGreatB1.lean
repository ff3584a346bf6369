/- Part of a proof. -/
import Derived.CallsIn
import Derived.OrdersIn
import Derived.RangeFuncIn
import Derived.RangeFuncLeaves
import Derived.KernelRfl
import Derived.Laws.Sem
import Derived.Laws.World
import Derived.RangeFuncRecord
import Derived.TacticsIn
set_option linter.all false
namespace Go.Vc
open Go Go.Vc
abbrev cm:=Value->World->Prop
structure Ca(P:Program)(f:FuncId)(args:Array Value)(w:World)(K:cm):Prop where
 out:Calls P f args w λe w' =>∃v,e=.returned v/\K v w'
def Ca.mono{P:Program}{f:FuncId}{a:Array Value}{w:World}{K c:cm}(h:Ca P f a w K)(d:∀v b,K v b->c v b):Ca P f a w c:=
 ⟨Calls.mono h.out λ_ _ ⟨v,g,e⟩=>⟨v,g,d _ _ e⟩⟩
def Yl(P:Program)(l:Nat)(args:Array Value)(w:World)(K:cm):Prop:=
 ∃fn tmps assign body,(Instr.yield l args).run P w=.ok (.round l fn tmps assign body) w/\
  RoundIn Fence.wide 0 P l fn tmps assign body w λe w' =>∃v,e=.returned v/\K v w'
def Yl.mono{P:Program}{l:Nat}{c:Array Value}{w:World}{K e:cm}(h:Yl P l c w K)(f:∀v d,K v d->e v d):Yl P l c w e:=
 let⟨fn,tmps,a,b,h1,h2⟩:=h
 ⟨fn,tmps,a,b,h1,h2.mono λ_ _ ⟨v,i,g⟩=>⟨v,i,f _ _ g⟩⟩
def Kd(P:Program)(s:Sem Value)(w:World)(K:cm):Prop:=
 match s.run P w with
 | .ok v w' =>K v w'
 | .halt _ _=>False
structure rv(P:Program)(s:Sem Value)(w:World)(K:cm):Prop where
 out:Kd P s w K
def t6{P:Program}{s:Sem Value}{w:World}{K:cm}:rv P s w K↔Kd P s w K:=⟨rv.out,rv.mk⟩
def JG(P:Program)(s:Sem Unit)(w:World)(K:World->Prop):Prop:=
 match s.run P w with
 | .ok _ w' =>K w'
 | .halt _ _=>False
structure ru(P:Program)(s:Sem Unit)(w:World)(K:World->Prop):Prop where
 out:JG P s w K
def tH{P:Program}{s:Sem Unit}{w:World}{K:World->Prop}:ru P s w K↔JG P s w K:=⟨ru.out,ru.mk⟩
structure rx(P:Program)(s:Sem Value)(w:World)(K:cm):Prop where
 out:rv P s w K
structure gh(P:Program)(s:Sem Unit)(w:World)(K:World->Prop):Prop where
 out:ru P s w K
def CR(P:Program)(s:Sem Next)(w:World)(K:cm):Prop:=
 match s.run P w with
 | .ok (.value v) w' =>K v w'
 | .ok .skip w' =>K undef w'
 | .ok (.enter f args) w' =>Ca P f args w' K
 | .ok (.round l fn tmps assign body) w' =>RoundIn Fence.wide 0 P l fn tmps assign body w' λe w'' =>∃v,e=.returned v/\K v w''
 |_=>False
structure rn(P:Program)(s:Sem Next)(w:World)(K:cm):Prop where
 out:CR P s w K
def iP{P:Program}{s:Sem Next}{w:World}{K:cm}:rn P s w K↔CR P s w K:=⟨rn.out,rn.mk⟩
def mU(P:Program):Bool:=P.funcs.all λfn=> !(fn.name== "runtime.NumGoroutine")
def Bz(P:Program)(fv:Value)(args:List Value)(w:World)(K:cm):Prop:=
 match fv with
 | .func (.func f) first captured=>Ca P f ⟨first.toList++(args++captured.toList)⟩ w K
 | .func (.yield l) first _=>Yl P l ⟨first.toList++args⟩ w K
 |_=>False
structure dX(P:Program)(fv:Value)(args:List Value)(w:World)(K:cm):Prop where
 out:Bz P fv args w K
def iI{P:Program}{fv:Value}{a:List Value}{w:World}{K:cm}:dX P fv a w K↔Bz P fv a w K:=⟨dX.out,dX.mk⟩
def xH(v:Value)(K:Bool->Prop):Prop:=
 match v with
 | .bool b=>K b
 |_=>False
def bc(b:Bool)(T F:Prop):Prop:=
 match b with
 |true=>T
 |false=>F
def cz(v:Value)(T F:Prop):Prop:=xH v λb=>bc b T F
def I6(b:Bool)(x y:Value):Value:=
 match b with
 |true=>x
 |false=>y
def B3(b:Bool)(x y:Value):I6 b x y=if b then x else y:=by cases b<;>rfl
structure dy where
 l:List (Nat×Option Value)
 g:Nat->Value
 ds:List Nat
def dy.look:List (Nat×Option Value)->Nat->Option (Option Value)
 | [],_=>none
 |(k,v)::r,t=>bif Nat.beq k t then some v else dy.look r t
def dy.get(E:dy)(t:Nat):Value:=
 match dy.look E.l t with
 |some (some v)=>v
 |some none=>undef
 |none=>E.g t
def dy.put(E:dy)(d:Option Nat)(v:Value):dy:=
 match d with
 |some d=>{E with l:=(d,some v)::E.l}
 |none=>E
def dy.skip(E:dy)(d:Option Nat):dy:=
 match d with
 |some d=>{E with l:=(d,none)::E.l}
 |none=>E
def dy.skipped(E:dy)(t:Nat):Bool:=
 match dy.look E.l t with
 |some none=>true
 |_=>false
def ev(E:dy):Operand->Value
 | .tmp t=>E.get t
 | .const v=>v
 | .global g=>.pointer (some ⟨g,0,none⟩)
 | .func f=>.func (.func f) #[] #[]
structure nP(n:Nat)(E:dy)(a:Act):Prop where
 size:a.tmps.size=n
 get:∀t,a.tmps.getD t undef=E.get t
 defs:a.defers=E.ds.map λd=>{target:=.collected d,args:=#[]}
def nP.ev{n:Nat}{E:dy}{a:Act}(h:nP n E a):a.eval=ev E:=by
 funext x;cases x with
 |tmp t=>exact h.get t
 |const v=>rfl
 |global g=>rfl
 |func f=>rfl
def dy.get_put(E:dy)(d:Nat)(v:Value)(t:Nat):(E.put (some d) v).get t=if d=t then v else E.get t:=by
 by_cases h:d=t
 ·subst h;simp[dy.get,dy.put,dy.look]
 ·have:Nat.beq d t=false:=by
   cases a:Nat.beq d t with
   |false=>rfl
   |true=>exact absurd (Nat.eq_of_beq_eq_true a) h
  simp[dy.get,dy.put,dy.look,this,h]
def dy.get_skip(E:dy)(d:Nat)(t:Nat):(E.skip (some d)).get t=if d=t then undef else E.get t:=by
 by_cases h:d=t
 ·subst h;simp[dy.get,dy.skip,dy.look]
 ·have:Nat.beq d t=false:=by
   cases a:Nat.beq d t with
   |false=>rfl
   |true=>exact absurd (Nat.eq_of_beq_eq_true a) h
  simp[dy.get,dy.skip,dy.look,this,h]
def oS(n:Nat):Option Nat->Bool
 |some d=>Nat.blt d n
 |none=>true
def yv(xs:Array Value)(d t:Nat)(v:Value)(h:d<xs.size):(xs.setIfInBounds d v).getD t undef=if d=t then v else xs.getD t undef:=by
 by_cases a:d=t
 ·subst a;simp[h]
 ·simp[a]
def nP.put{n:Nat}{E:dy}{a:Act}(h:nP n E a){d:Option Nat}(c:oS n d=true)(v:Value):nP n (E.put d v) (a.put d v):=by
 cases d with
 |none=>exact h
 |some d=>
  have b:d<a.tmps.size:=by rw[h.size];simpa [oS,Nat.blt_eq]using c
  refine⟨by simp[Act.put,h.size],λt=>?_,h.defs⟩;rw[dy.get_put];simp only[Act.put];rw[yv _ _ _ _ b,h.get]
def nP.skip{n:Nat}{E:dy}{a:Act}(h:nP n E a){d:Option Nat}(c:oS n d=true):nP n (E.skip d) (a.put d undef):=by
 cases d with
 |none=>exact h
 |some d=>
  have b:d<a.tmps.size:=by rw[h.size];simpa [oS,Nat.blt_eq]using c
  refine⟨by simp[Act.put,h.size],λt=>?_,h.defs⟩;rw[dy.get_skip];simp only[Act.put];rw[yv _ _ _ _ b,h.get]
def nP.of_get{n:Nat}{E E' :dy}{a:Act}(h:nP n E a)(c:∀t,E'.get t=E.get t)(b:E'.ds=E.ds):nP n E' a:=
 ⟨h.size,λt=>(h.get t).trans (c t).symm,by rw[b];exact h.defs⟩
def E7:Operand->Bool
 | .const _=>true
 |_=>false
def PX(op:BinOp)(t:TypeId)(c:Bool)(a b:Value):Sem Unit:=do
 if !(op matches .eql| .neq)then return
 match a,b with
 | .nilIface,.nilIface=>
  if c then return
  if<-Op.eqGuardIn Op.maxDepth t a b then unsupported (.noEntry "binop/eql: two nil values of an interface type with methods, neither of them the literal nil")
 | .agg _,.agg _=>
  if !(<-program).eqGuardType (<-program).depth t then return
  if<-Op.eqGuardIn Op.maxDepth t a b then unsupported (.noEntry "binop/eql: two nil values of an interface type with methods, in a part of a struct or an array")
 |_,_=>pure ()
def LH(c:BinOp)(t:TypeId)(x y:Operand)(a b:Value):eqGuard c t x y a b=PX c t (E7 x||E7 y) a b:=by
 unfold eqGuard PX;cases x<;>cases y<;>rfl
def tf(op:BinOp)(t:TypeId)(c:Bool)(a b:Value):Sem Value:=do PX op t c a b;binOp op t a b
def cD(v:Value)(K:Value->Prop):Prop:=
 match v with
 | .pointer (some a)=>K (.pointer (some a))
 |_=>False
def uQ(P:Program)(t:TypeId):Bool:=Nat.blt 12 (P.cellsOf t)
def dh(t:TypeId)(x:Value):Sem Value:=Instr.loadAt t x
def ew(t:TypeId)(x y:Value):Sem Unit:=Instr.storeAt t x y
def iz(t:TypeId):Sem Value:=Instr.alloc t true (.tuple #[])
def sF(t:TypeId)(parts:Array (Nat×Value)):Sem Value:=Instr.build t parts
def cv(ts:Array TypeId)(t:TypeId)(args:List Value):Sem Value:=Builtin.append_ ts t ⟨args⟩
def rR(ts:Array TypeId)(t:TypeId)(args:List Value):Sem Value:=Builtin.copy_ ts t ⟨args⟩
def Hq(ts:Array TypeId)(t:TypeId)(args:List Value):Sem Value:=Builtin.delete_ ts t ⟨args⟩
def tp(ts:Array TypeId)(t:TypeId)(args:List Value):Sem Value:=Builtin.clear_ ts t ⟨args⟩
def Ps(t:TypeId)(l c:Value):Sem Value:=Instr.makeSlice t l c
def dP(t:TypeId)(n:Nat)(parts:List (Nat×Value)):Sem Value:=Instr.buildSlice t n ⟨parts⟩
def nK(s d:TypeId)(x:Value):Sem Value:=convert s d x
def fA(t:TypeId)(m k:Value)(ok:Bool):Sem Value:=Instr.lookup t m k ok
def gY(t:TypeId)(m k v:Value):Sem Unit:=Instr.mapUpdate t m k v
def ly(t:TypeId)(x:Value):Sem Value:=Instr.range t x
def ol(it:Value)(s:Bool)(t:TypeId):Sem Value:=Instr.next it s t
def lz(it:Value):Sem Value:=Instr.entry it
def HD(t:TypeId)(m k:Value):Sem Value:=Instr.mapEntry t m k
def KR(t:TypeId)(m s v:Value):Sem Unit:=Instr.entryStore t m s v
def zB(P:Program)(s d:TypeId):Bool:=
 (match P.underlying s with|some (.slice _)=>true|_=>false)||(match P.underlying d with|some (.slice _)=>true|_=>false)
def LS(P:Program)(f:FuncId):Bool:=match (P.funcs[f]?).bind (·.body)with|none=>true|some _=>false
structure RY(P:Program)(f:FuncId)(args:List Value)(w:World)(K:cm):Prop where
 out:rn P (callFunc f ⟨args⟩) w K
def fT(ρ:Operand->Value)(xs:Array Operand):List Value:=xs.toList.map ρ
def Ha(P:Program)(ρ:Operand->Value)(o:Oper)(w:World)(K:cm):Prop:=
 match o.op with
 | .move x| .assign x=>K (ρ x) w
 | .pick c x y=>xH (ρ c) λb=>K (I6 b (ρ x) (ρ y)) w
 | .alloc elem=>match uQ P elem with
  |true=>rx P (iz elem) w K
  |false=>rv P (Instr.alloc elem true (.tuple #[])) w K
 | .box elem x=>rv P (Instr.box elem (ρ x)) w K
 | .build t parts=>match uQ P t with
  |true=>rx P (sF t ⟨parts.toList.map λp=>(p.1,ρ p.2)⟩) w K
  |false=>rv P (Instr.build t ⟨parts.toList.map λp=>(p.1,ρ p.2)⟩) w K
 | .buildSlice t len parts=>rx P (dP t len (parts.toList.map λp=>(p.1,ρ p.2))) w K
 | .load t x=>match uQ P t with
  |true=>rx P (dh t (ρ x)) w K
  |false=>rv P (Instr.loadAt t (ρ x)) w K
 | .store t x y=>match uQ P t with
  |true=>gh P (ew t (ρ x) (ρ y)) w (K undef)
  |false=>ru P (Instr.storeAt t (ρ x) (ρ y)) w (K undef)
 | .binOp op t x y _=>rv P (tf op t (E7 x||E7 y) (ρ x) (ρ y)) w K
 | .unOp op _ x=>rv P (Op.unary op (ρ x)) w K
 | .convert s d x=>match zB P s d with
  |true=>rx P (nK s d (ρ x)) w K
  |false=>rv P (convert s d (ρ x)) w K
 | .sliceToArrayPointer t x=>rv P (Instr.arrayAt t (ρ x)) w K
 | .makeInterface t x=>rv P (Instr.makeInterface t (ρ x)) w K
 | .makeFunc fn first captured=>K (.func fn ⟨fT ρ first⟩ ⟨fT ρ captured⟩) w
 | .makeMap t r=>rv P (Instr.makeMap t (r.map ρ)) w K
 | .makeSlice t l c=>rx P (Ps t (ρ l) (ρ c)) w K
 | .slice t x lo hi mx=>rv P (Instr.sliceAt t (ρ x) (lo.map ρ) (hi.map ρ) (mx.map ρ)) w K
 | .fieldAddr t x f=>rv P (Instr.fieldAt t (ρ x) f) w K
 | .field t x f=>rv P (Instr.field t (ρ x) f) w K
 | .indexAddr t x i=>rv P (Instr.indexAt t (ρ x) (ρ i)) w K
 | .index t x i=>rv P (Instr.index t (ρ x) (ρ i)) w K
 | .lookup t x i ok=>rx P (fA t (ρ x) (ρ i) ok) w K
 | .mapUpdate t m k x| .insert t m k x=>gh P (gY t (ρ m) (ρ k) (ρ x)) w (K undef)
 | .range t x=>rx P (ly t (ρ x)) w K
 | .next it s=>rx P (ol (ρ it) s o.type) w K
 | .entry it=>rx P (lz (ρ it)) w K
 | .mapEntry t m k=>rx P (HD t (ρ m) (ρ k)) w K
 | .entryStore t m s x=>gh P (KR t (ρ m) (ρ s) (ρ x)) w (K undef)
 | .typeAssert x t u ok=>rv P (Instr.typeAssert (ρ x) t u ok) w K
 | .extract t i=>rv P (Instr.extract (ρ t) i) w K
 | .call c=>
  match c.callee with
  | .value (.func f)=>match LS P f with
   |true=>RY P f (fT ρ c.args) w K
   |false=>Ca P f ⟨fT ρ c.args⟩ w K
  | .value f=>dX P (ρ f) (fT ρ c.args) w K
  | .builtin .append=>rx P (cv c.argTypes o.type (fT ρ c.args)) w K
  | .builtin .copy=>rx P (rR c.argTypes o.type (fT ρ c.args)) w K
  | .builtin .delete=>rx P (Hq c.argTypes o.type (fT ρ c.args)) w K
  | .builtin .clear=>rx P (tp c.argTypes o.type (fT ρ c.args)) w K
  | .builtin b=>rn P (builtin b c.argTypes o.type ⟨c.args.toList.map E7⟩ ⟨fT ρ c.args⟩) w K
  | .invoke _ _=>rn P (execOp ρ o) w K
 | .nilCheck x=>cD (ρ x) λv=>K v w
 | .defer _| .go _| .select .. | .panic _=>False
 |_=>rn P (execOp ρ o) w K
def fY{P:Program}{s:Sem Value}{w:World}{K:cm}(h:rv P s w K):rn P (do pure (.value (<-s))) w K:=by
 rw[t6]at h;unfold Kd at h;rw[iP];unfold CR;simp only[Sem.run_bind,Sem.run_pure];cases a:s.run P w with
 |ok v b=>rw[a]at h;simpa [Result.andThen]using h
 |halt x b=>rw[a]at h;exact h.elim
def oo{P:Program}{s:Sem Unit}{w:World}{K:cm}(h:ru P s w (K undef)):rn P (do s;pure .skip) w K:=by
 rw[tH]at h;unfold JG at h;rw[iP];unfold CR;simp only[Sem.run_bind,Sem.run_pure];cases a:s.run P w with
 |ok v b=>rw[a]at h;simpa [Result.andThen]using h
 |halt x b=>rw[a]at h;exact h.elim
def Ca.bodied{P:Program}{f:FuncId}{a:Array Value}{w:World}{K:cm}(h:Ca P f a w K):∃fn,P.funcs[f]? =some fn/\fn.body.isSome=true:=by
 apply Classical.byContradiction;intro q;obtain⟨e,u,k,⟨v,rfl,_⟩,t,_,o⟩:=h.out []
 have g:((P.funcs[f]?).bind (·.body))=none:=by
  cases l:P.funcs[f]? with
  |none=>rfl
  |some fn=>
   cases j:fn.body with
   |none=>simp[j]
   |some c=>exact absurd ⟨fn,l,by simp[j]⟩ q
 obtain⟨r,p⟩:∃r,step P (lone (Frame.enter P f a .normal) [] w)=.ended r w:=by
  refine⟨?r,step_lone_ended ?h⟩
  case h=>
   simp only[stepG,stepG.exec,Frame.enter,g];exact rfl
 obtain⟨n,d⟩:=(t:Steps P _ _)
 cases n with
 |zero=>
  simp only[runN]at d;injection d with s
  have i:Frame.enter P f a .normal=k:=by
   have:=congrArg (λm=>(m.gs[0]?).map (·.frame)) s;simpa [lone]using this
  have b:=o.1;rw[<-i]at b;simp[Frame.enter]at b
 |succ n=>simp[runN,p]at d
def se{P:Program}(k:mU P=true){f:FuncId}{a:Array Value}{w:World}{K:cm}(h:Ca P f a w K):rn P (callFunc f a) w K:=by
 obtain⟨fn,g,j⟩:=h.bodied
 have d:(fn.name== "runtime.NumGoroutine")=false:=by
  have:=(Array.all_eq_true'.1 k) fn (Array.mem_of_getElem? g);simpa using this
 have e:fn.body.isNone=false:=by cases i:fn.body<;>simp_all
 rw[iP];unfold CR
 have:(callFunc f a).run P w=.ok (.enter f a) w:=by
  have b:¬fn.name= "runtime.NumGoroutine" :=by simpa using d
  have c:¬fn.body=none:=by intro i;rw[i]at j;exact absurd j (by simp)
  unfold callFunc;simp[Sem.run_bind,Result.andThen,g,b,c]
 rw[this];exact h
def iG(ρ:Operand->Value)(xs:Array Operand):(⟨fT ρ xs⟩:Array Value)=xs.map ρ:=by
 apply Array.ext';simp[fT]
def G5{P:Program}(m:mU P=true){fv:Value}{b:List Value}{w:World}{K:cm}(h:dX P fv b w K):
  rn P (do let d<-Deferred.ofValue fv ⟨b⟩;invoke d.target d.args) w K:=by
 rw[iI]at h;unfold Bz at h;split at h
 ·rename_i f first a
  have e:(do let d<-Deferred.ofValue (.func (.func f) first a) ⟨b⟩;invoke d.target d.args:Sem Next)=callFunc f (first++⟨b⟩++a):=rfl;rw[e]
  have g:(first++⟨b⟩++a:Array Value)=⟨first.toList++(b++a.toList)⟩:=by
   apply Array.ext';simp
  rw[g];exact se m h
 ·rename_i l first a
  have e:(do let d<-Deferred.ofValue (.func (.yield l) first a) ⟨b⟩;invoke d.target d.args:Sem Next)=Instr.yield l (first++⟨b⟩):=rfl;rw[e]
  have g:(first++⟨b⟩:Array Value)=⟨first.toList++b⟩:=by
   apply Array.ext';simp
  rw[g];obtain⟨fn,j,c,i,h1,k⟩:=h;rw[iP];unfold CR;rw[h1];exact k
 ·exact h.elim
def uW{P:Program}(C:mU P=true){ρ:Operand->Value}(E:∀f,ρ (.func f)=.func (.func f) #[] #[]){o:Oper}{w:World}{K:cm}(h:Ha P ρ o w K):
  rn P (execOp ρ o) w K:=by
 obtain⟨A,B,q,pos,u,guard⟩:=o;unfold Ha at h;cases B<;>simp only at h
 case move x=>exact iP.2 h
 case assign x=>exact iP.2 h
 case pick c x y=>
  unfold xH at h;split at h
  ·rename_i b D
   simp only[execOp,D,iP,CR,asBool,Sem.run_bind,Sem.run_pure,Result.andThen];rw[B3]at h;exact h
  ·exact h.elim
 case alloc t=>
  split at h
  ·exact fY h.out
  ·exact fY h
 case load t x=>
  split at h
  ·exact fY h.out
  ·exact fY h
 case convert s d x=>
  split at h
  ·exact fY h.out
  ·exact fY h
 case build t ps=>
  have h:rv P (Instr.build t ⟨ps.toList.map λp=>(p.1,ρ p.2)⟩) w K:=by
   split at h
   ·exact h.out
   ·exact h
  have e:(⟨ps.toList.map λp=>(p.1,ρ p.2)⟩:Array (Nat×Value))=ps.map λ(i,x)=>(i,ρ x):=by
   apply Array.ext';simp
  rw[e]at h;exact fY h
 case buildSlice t n ps=>
  have h:rv P (Instr.buildSlice t n ⟨ps.toList.map λp=>(p.1,ρ p.2)⟩) w K:=h.out
  have e:(⟨ps.toList.map λp=>(p.1,ρ p.2)⟩:Array (Nat×Value))=ps.map λ(i,x)=>(i,ρ x):=by
   apply Array.ext';simp
  rw[e]at h;exact fY h
 case binOp B t x y yt=>
  have e:(do eqGuard B t x y (ρ x) (ρ y);binOp B t (ρ x) (ρ y):Sem Value)=tf B t (E7 x||E7 y) (ρ x) (ρ y):=by
   unfold tf;rw[LH]
  have:=fY h;rw[<-e]at this;exact this
 case makeFunc fn first captured=>
  rw[iG,iG]at h;exact iP.2 h
 case store t x y=>
  split at h
  ·exact oo h.out
  ·exact oo h
 case nilCheck x=>
  unfold cD at h;split at h
  ·rename_i a G
   simp only[execOp,G,iP,CR,Sem.run_pure];exact h
  ·exact h.elim
 case mapUpdate t m k x=>exact oo h.out
 case insert t m k x=>exact oo h.out
 case entryStore t m s x=>exact oo h.out
 case call c=>
  obtain⟨z,j,l⟩:=c;cases z with
  |value f=>
   have key:dX P (ρ f) (fT ρ j) w K->rn P (execOp ρ ⟨A,.call ⟨.value f,j,l⟩,q,pos,u,guard⟩) w K:=by
    intro h;have:=G5 C h;rw[iG]at this;exact this
   cases f with
   |func g=>
    simp only at h
    have this:rn P (callFunc g ⟨fT ρ j⟩) w K:=by
     split at h
     ·exact h.out
     ·exact se C h
    rw[iG]at this;have e:(execOp ρ ⟨A,.call ⟨.value (.func g),j,l⟩,q,pos,u,guard⟩:Sem Next)=(do let d<-Deferred.ofValue (ρ (.func g)) (j.map ρ);invoke d.target d.args):=rfl;rw[e,E g];have F:(do let d<-Deferred.ofValue (.func (.func g) #[] #[]) (j.map ρ);invoke d.target d.args:Sem Next)=callFunc g (#[]++j.map ρ++ #[]):=rfl;rw[F];simpa using this
   |tmp t=>exact key h
   |const v=>exact key h
   |global g=>exact key h
  |builtin b=>
   have key:rn P (builtin b l q ⟨j.toList.map E7⟩ ⟨fT ρ j⟩) w K:=by
    cases b<;>first|exact h|exact fY h.out
   have h:=key;rw[iG]at h
   have e:(⟨j.toList.map E7⟩:Array Bool)=j.map λ| .const _=>true|_=>false:=by
    apply Array.ext';simp only[Array.toList_map];apply List.map_congr_left;intro x _;cases x<;>rfl
   rw[e]at h;exact h
  |invoke r m=>exact h
 all_goals first|exact fY h|exact fY h.out|exact h|exact h.elim
def FR:Option Nat->Fence
 |none=>Fence.wide
 |some l=>Fence.wide.inRound l
def FR.fn(ro:Option Nat)(f:FuncId):(FR ro).fn f:=by cases ro<;>exact trivial
def FR.round(ro:Option Nat):(FR ro).round=ro:=by cases ro<;>rfl
def FR.depth(ro:Option Nat):(FR ro).depth=none:=by cases ro<;>rfl
def FR.calls{ro:Option Nat}{n:Nat}{P:Program}{f:FuncId}{a:Array Value}{w:World}{R:Ending->World->Prop}(h:Calls P f a w R):CallsIn (FR ro) n P f a w R:=by
 cases ro with
 |none=>exact callsIn_wide.2 h
 |some l=>exact(callsIn_wide (n:=n)).2 h
def FR.roundIn{ro:Option Nat}{n m:Nat}{P:Program}{l:Nat}{f:FuncId}{d:Array Value}{a b:Code}{w:World}{R:Ending->World->Prop}
  (h:RoundIn Fence.wide m P l f d a b w R):RoundIn (FR ro) n P l f d a b w R:=by
 cases ro with
 |none=>exact⟨h.1,λc e _=>h.2 c e (room_wide _)⟩
 |some l=>exact⟨h.1,λc e _=>h.2 c e (room_wide _)⟩
def oK:Op->Bool
 | .defer _| .go _| .select .. =>false
 |_=>true
def tT{P:Program}{ro:Option Nat}{o:Oper}{a:Act}{w:World}{K:cm}{next:Act->World->Prop}{Q:Exit->Act->World->Prop}{ρ:Operand->Value}
  (k:oK o.op=true)(l:execOp a.eval o=execOp ρ o)(h:rn P (execOp ρ o) w K)(i:∀v g,K v g->next (a.put o.dst v) g):o.wpIn (FR ro) 0 P a w next Q:=by
 refine⟨λf _=>FR.fn ro f,?_⟩;rw[FR.round,Oper.semAt_eq ro a.eval o (λc m=>by rw[m]at k;cases k),l];rw[iP]at h;unfold CR at h;split at h
 ·rename_i b;rw[b];exact i _ _ h
 ·rename_i b;rw[b];exact i _ _ h
 ·rename_i b;rw[b]
  refine⟨(λd=>by rw[FR.depth]at d;cases d),FR.calls (Calls.mono h.out ?_)⟩;rintro e g ⟨v,rfl,j⟩;exact i _ _ j
 ·rename_i b;rw[b]
  refine⟨(λd=>by rw[FR.depth]at d;cases d),FR.roundIn (h.mono ?_)⟩;rintro e g ⟨v,rfl,j⟩;exact i _ _ j
 ·exact h.elim
def ug(ops:List Oper)(j:Nat):Option Nat:=
 match ops[j]? with
 |some o=>o.dst
 |none=>none
def Ho(ops:List Oper)(o:Oper)(E:dy)(yes no:dy->Prop):Prop:=
 match o.guard with
 |none=>yes E
 |some (j,want)=>
  match ug ops j with
  |none=>no E
  |some s=>
   match E.skipped s with
   |true=>no E
   |false=>xH (E.get s) λb=>bc b
     ((match want with|true=>yes|false=>no) (E.put (some s) (.bool true)))
     ((match want with|true=>no|false=>yes) (E.put (some s) (.bool false)))
def pm:Value->Option Bool
 | .bool b=>some b
 |_=>none
def fD(ops:List Oper)(E:dy)(o:Oper):Bool:=
 Region.wanted o λj=>(ug ops j).bind λs=>pm (E.get s)
def dy.Same(E E' :dy):Prop:=(∀t,E'.get t=E.get t)/\E'.ds=E.ds
def dy.Same.refl(E:dy):E.Same E:=⟨λ_=>rfl,rfl⟩
def dy.Same.ev{E E' :dy}(h:E.Same E'):Vc.ev E' =Vc.ev E:=by
 funext x;cases x<;>first|exact h.1 _|rfl
def dy.Same.wanted{E E' :dy}(h:E.Same E')(ops:List Oper)(o:Oper):fD ops E' o=fD ops E o:=by
 unfold fD;congr 1;funext j;cases ug ops j<;>simp[h.1]
def dy.same_put{E:dy}{s:Nat}{v:Value}(h:E.get s=v):E.Same (E.put (some s) v):=by
 refine⟨λt=>?_,rfl⟩;rw[dy.get_put];split
 ·rename_i e;rw[<-e,h]
 ·rfl
def re{ops:List Oper}{o:Oper}{E:dy}{f k:dy->Prop}(h:Ho ops o E f k):
  (fD ops E o=true/\∃e,E.Same e/\f e)\/(fD ops E o=false/\∃e,E.Same e/\k e):=by
 unfold Ho at h;unfold fD Region.wanted;cases i:o.guard with
 |none=>rw[i]at h;exact .inl ⟨rfl,E,.refl E,h⟩
 |some g=>
  obtain⟨j,a⟩:=g;rw[i]at h;simp only at h|-;cases l:ug ops j with
  |none=>rw[l]at h;exact .inr ⟨rfl,E,.refl E,h⟩
  |some s=>
   rw[l]at h;simp only at h;cases d:E.skipped s with
   |true=>
    rw[d]at h
    have n:E.get s=undef:=by
     unfold dy.skipped at d;unfold dy.get;split at d
     ·rename_i m;rw[m]
     ·cases d
    exact .inr ⟨by simp[n,undef,pm],E,.refl E,h⟩
   |false=>
    rw[d]at h;simp only[xH]at h;split at h
    ·rename_i b c
     cases b with
     |true=>
      cases a with
      |true=>exact .inl ⟨by simp[c,pm],_,dy.same_put c,h⟩
      |false=>exact .inr ⟨by simp[c,pm],_,dy.same_put c,h⟩
     |false=>
      cases a with
      |true=>exact .inr ⟨by simp[c,pm],_,dy.same_put c,h⟩
      |false=>exact .inl ⟨by simp[c,pm],_,dy.same_put c,h⟩
    ·exact h.elim
def tU{ops:List Oper}{a:Act}{E:dy}{o:Oper}(h:∀t,t∈o.looksAt ops.toArray->a.tmps.getD t undef=E.get t):
  Region.wanted o (yielded ops.toArray a.tmps)=fD ops E o:=by
 unfold fD Region.wanted;cases i:o.guard with
 |none=>rfl
 |some g=>
  obtain⟨j,e⟩:=g;simp only;congr 1;unfold yielded ug;cases c:ops[j]? with
  |none=>simp[c]
  |some k=>
   cases d:k.dst with
   |none=>simp[c,d]
   |some s=>
    have f:s∈o.looksAt ops.toArray:=by
     unfold Oper.looksAt;rw[i];simp[c,d]
    have:=h s f;simp only[List.getElem?_toArray,c,Option.bind_some,d];rw[<-this];by_cases b:s<a.tmps.size
    ·simp only[Array.getElem?_eq_getElem b,Array.getD_eq_getD_getElem?,Option.getD_some];cases a.tmps[s]<;>rfl
    ·simp[Array.getElem?_eq_none (Nat.le_of_not_lt b),undef,pm]
def wQ{ops:List Oper}{a:Act}{E:dy}{o:Oper}(c:oK o.op=true)(h:∀t,t∈o.looksAt ops.toArray->a.tmps.getD t undef=E.get t):
  execOp a.eval o=execOp (ev E) o:=by
 refine execOp_congr o (λi b e=>by rw[e]at c;cases c) λx d=>?_;cases x with
 |tmp t=>
  refine h t ?_;unfold Oper.looksAt;refine List.mem_append_left _ (List.mem_filterMap.2 ⟨.tmp t,by simpa using d,rfl⟩)
 |const v=>rfl
 |global g=>rfl
 |func f=>rfl
def BJ(E:dy)(f:FuncId):ev E (.func f)=.func (.func f) #[] #[]:=rfl
def yy{P:Program}{ρ:Operand->Value}{o:Oper}{w:World}{K:cm}(h:Ha P ρ o w K):oK o.op=true:=by
 unfold Ha at h;cases a:o.op<;>rw[a]at h<;>first|rfl|exact h.elim
def rr(P:Program)(ops:List Oper):List Oper->dy->World->(dy->World->Prop)->Prop
 | [],E,w,K=>K E w
 |o::rest,E,w,K=>
  Ho ops o E (λE=>Ha P (ev E) o w λv w' =>rr P ops rest (E.put o.dst v) w' K)
   (λE=>rr P ops rest (E.skip o.dst) w K)
def wp{P:Program}(u:mU P=true){ro:Option Nat}{n:Nat}{ops:List Oper}{Q:Exit->Act->World->Prop}{K:dy->World->Prop}
  (q:∀E a w,nP n E a->K E w->Q .normal a w):∀(l:List Oper),(l.all λo=>oS n o.dst)=true->∀(E:dy) (a:Act) (w:World),nP n E a->
  rr P ops l E w K->wpListIn (FR ro) 0 P ops.toArray Q l a w:=by
 intro l;induction l with
 |nil=>exact λ_ E a w e h=>q E a w e h
 |cons o rest p=>
  intro d E a w e h;simp only[List.all_cons,Bool.and_eq_true]at d;unfold wpListIn;have b:∀t,t∈o.looksAt ops.toArray->a.tmps.getD t undef=E.get t:=λt _=>e.get t;rw[tU b];rcases re h with⟨j,i,g,m⟩|⟨j,i,g,r⟩
  ·rw[if_pos j];have c:nP n i a:=e.of_get g.1 g.2;have k:=yy m;refine tT (ρ:=ev i) k (by rw[c.ev]) (uW u (BJ i) m) λv x s=>?_;exact p d.2 _ _ _ (c.put d.1 v) s
  ·rw[if_neg (by rw[j];simp)];exact⟨λf _=>FR.fn ro f,p d.2 _ _ _ ((e.of_get g.1 g.2).skip d.1) r⟩
def yr(P:Program)(s:Sem Value)(w:World)(K:Value->Prop):Prop:=
 match s.run P w with
 | .ok v w' =>w' =w/\K v
 | .halt _ _=>False
structure sY(P:Program)(s:Sem Value)(w:World)(K:Value->Prop):Prop where
 out:yr P s w K
def qO{P:Program}{s:Sem Value}{w:World}{K:Value->Prop}:sY P s w K↔yr P s w K:=⟨sY.out,sY.mk⟩
def Lp(P:Program)(s:Sem Value)(K:Value->Prop):Prop:=∃v,(∀w,s.run P w=.ok v w)/\K v
structure sO(P:Program)(s:Sem Value)(K:Value->Prop):Prop where
 out:Lp P s K
def HU{P:Program}{s:Sem Value}{K:Value->Prop}:sO P s K↔Lp P s K:=⟨sO.out,sO.mk⟩
structure iD(P:Program)(s:Sem Value)(w:World)(K:Value->Prop):Prop where
 out:sY P s w K
structure E0(P:Program)(s:Sem Value)(K:Value->Prop):Prop where
 out:sO P s K
def R1(P:Program):Op->Bool
 | .build t _=>uQ P t
 | .load t _=>uQ P t
 | .lookup .. =>true
 | .convert s d _=>zB P s d
 |_=>false
def pZ(P:Program)(ρ:Operand->Value):Op->Option (Sem Value)
 | .binOp op t x y _=>some (tf op t (E7 x||E7 y) (ρ x) (ρ y))
 | .unOp op _ x=>some (Op.unary op (ρ x))
 | .fieldAddr t x f=>some (Instr.fieldAt t (ρ x) f)
 | .field t x f=>some (Instr.field t (ρ x) f)
 | .indexAddr t x i=>some (Instr.indexAt t (ρ x) (ρ i))
 | .index t x i=>some (Instr.index t (ρ x) (ρ i))
 | .slice t x lo hi mx=>some (Instr.sliceAt t (ρ x) (lo.map ρ) (hi.map ρ) (mx.map ρ))
 | .sliceToArrayPointer t x=>some (Instr.arrayAt t (ρ x))
 | .extract t i=>some (Instr.extract (ρ t) i)
 | .build t parts=>match uQ P t with
  |true=>some (sF t ⟨parts.toList.map λp=>(p.1,ρ p.2)⟩)
  |false=>some (Instr.build t ⟨parts.toList.map λp=>(p.1,ρ p.2)⟩)
 | .makeInterface t x=>some (Instr.makeInterface t (ρ x))
 |_=>none
def qj(P:Program)(ρ:Operand->Value)(o:Oper):Option (Sem Value):=
 match o.op with
 | .load t x=>match uQ P t with
  |true=>some (dh t (ρ x))
  |false=>some (Instr.loadAt t (ρ x))
 | .lookup t x i ok=>some (fA t (ρ x) (ρ i) ok)
 | .call ⟨.builtin .len,args,ts⟩=>some (Builtin.len_ ts o.type ⟨fT ρ args⟩)
 | .call ⟨.builtin .min,args,ts⟩=>some (Builtin.min_ ts o.type ⟨fT ρ args⟩)
 | .call ⟨.builtin .max,args,ts⟩=>some (Builtin.max_ ts o.type ⟨fT ρ args⟩)
 | .convert s d x=>match P.underlying d with
  |some (.slice _)=>none
  |_=>match zB P s d with
   |true=>some (nK s d (ρ x))
   |false=>some (convert s d (ρ x))
 |_=>none
def HV:Op->Bool
 | .move _| .pick .. | .nilCheck _| .makeFunc .. =>true
 |_=>false
def qY(ρ:Operand->Value)(op:Op)(K:Value->Prop):Prop:=
 match op with
 | .move x=>K (ρ x)
 | .pick c x y=>xH (ρ c) λb=>K (I6 b (ρ x) (ρ y))
 | .nilCheck x=>cD (ρ x) K
 | .makeFunc fn first captured=>K (.func fn ⟨fT ρ first⟩ ⟨fT ρ captured⟩)
 |_=>False
def Gl(P:Program)(o:Oper):Nat:=
 match HV o.op with
 |true=>0
 |false=>
  match pZ P (λ_=>undef) o.op with
  |some _=>1
  |none=>
   match qj P (λ_=>undef) o with
   |some _=>2
   |none=>3
def wX(o:Oper):List Nat:=(o.after.toList.filter λe=>Region.binds .any e).map (·.on)
def gF(ops:List Oper)(i:Nat):List Nat:=
 match ops[i]? with
 |some o=>wX o
 |none=>[]
def MC(ops:List Oper):Nat->List Nat->List Nat->List Nat
 |0,_,acc=>acc
 |_+1,[],acc=>acc
 |f+1,x::r,acc=>
  match acc.contains x with
  |true=>MC ops f r acc
  |false=>MC ops f (gF ops x++r) (x::acc)
def uJ(ops:List Oper)(j:Nat):List Nat:=MC ops 4000 (gF ops j) []
abbrev oQ:=List (Nat×Sem Value×Value)
def tw(P:Program)(w:World):oQ->Prop->Prop
 | [],R=>R
 |(_,s,v)::r,R=>s.run P w=.ok v w/\tw P w r R
def Cj(F:Nat->Prop):List Nat->Prop
 | []=>True
 | [j]=>F j
 |j::r=>F j/\Cj F r
def Lv(ops:List Oper)(done:List Nat)(i:Nat):Bool:= !done.contains i&& (gF ops i).all λd=>done.contains d
def xA(ops:List Oper)(done:List Nat):List Nat:=(List.range ops.length).filter (Lv ops done)
def HI(P:Program)(ops:List Oper)(i:Nat):Bool:=
 match ops[i]? with
 |some o=>Nat.blt (Gl P o) 3
 |none=>false
def sj(P:Program)(ops:List Oper):Nat->List Nat->oQ->dy->World->(dy->World->Prop)->Prop
 |0,_,_,_,_,_=>False
 |fuel+1,done,pend,E,w,K=>
  match (xA ops done).find? (HI P ops)with
  |some i=>
   match ops[i]? with
   |none=>False
   |some o=>
    Ho ops o E (λE=>
     match Gl P o with
     |0=>qY (ev E) o.op λv=>sj P ops fuel (i::done) pend (E.put o.dst v) w K
     |1=>match pZ P (ev E) o.op with
      |some s=>match R1 P o.op with
       |true=>E0 P s λv=>sj P ops fuel (i::done) pend (E.put o.dst v) w K
       |false=>sO P s λv=>sj P ops fuel (i::done) pend (E.put o.dst v) w K
      |none=>False
     |_=>match qj P (ev E) o with
      |some s=>match R1 P o.op with
       |true=>iD P s w λv=>sj P ops fuel (i::done) ((i,s,v)::pend) (E.put o.dst v) w K
       |false=>sY P s w λv=>sj P ops fuel (i::done) ((i,s,v)::pend) (E.put o.dst v) w K
      |none=>False)
     (λE=>sj P ops fuel (i::done) pend (E.skip o.dst) w K)
  |none=>
   match xA ops done with
   | []=>K E w
   |rs=>Cj (λj=>
    match ops[j]? with
    |none=>False
    |some o=>
     Ho ops o E (λE=>Ha P (ev E) o w λv w' =>tw P w' (pend.filter λp=> !(uJ ops j).contains p.1) (sj P ops fuel (j::done) (pend.filter λp=> !(uJ ops j).contains p.1) (E.put o.dst v) w' K))
      (λE=>sj P ops fuel (j::done) (pend.filter λp=> !(uJ ops j).contains p.1) (E.skip o.dst) w K)) rs
def kB(P:Program)(ops:List Oper):Bool:=
 (List.range ops.length).all λi=>match ops[i]? with
  |none=>false
  |some oi=>oK oi.op&& (!Nat.blt (Gl P oi) 3||((match oi.dst with|none=>true|some d=> !(oi.looksAt ops.toArray).contains d)&& (List.range ops.length).all λj=>Nat.beq i j||match ops[j]? with
   |none=>false
   |some oj=>
    (match oi.dst with
    |none=>true
    |some d=>oj.dst != some d&& (!(oj.looksAt ops.toArray).contains d||(uJ ops j).contains i))&&
    (match oj.dst with
    |none=>true
    |some d=> !(oi.looksAt ops.toArray).contains d||(uJ ops i).contains j||(uJ ops j).contains i)))
def iv{P:Program}{ops:List Oper}(h:kB P ops=true){i:Nat}{o:Oper}(hi:ops[i]? =some o):oK o.op=true:=by
 unfold kB at h;have a:i<ops.length:=(List.getElem?_eq_some_iff.1 hi).1;have:=List.all_eq_true.1 h i (List.mem_range.2 a);rw[hi]at this;simp only[Bool.and_eq_true]at this;exact this.1
def ue{P:Program}{ops:List Oper}(h:kB P ops=true){i:Nat}{o:Oper}(hi:ops[i]? =some o)(e:Gl P o<3){d:Nat}(b:o.dst=some d):
  d ∉ o.looksAt ops.toArray:=by
 unfold kB at h;have a:i<ops.length:=(List.getElem?_eq_some_iff.1 hi).1;have:=List.all_eq_true.1 h i (List.mem_range.2 a);rw[hi]at this;have c:Nat.blt (Gl P o) 3=true:=by simpa [Nat.blt_eq]using e
 simp only[c,b,Bool.and_eq_true,Bool.not_true,Bool.false_or]at this;simpa using this.2.1
def kv{P:Program}{ops:List Oper}(h:kB P ops=true){i j:Nat}{e k:Oper}(hi:ops[i]? =some e)(p:ops[j]? =some k)(s:Gl P e<3)(n:i≠j):
  (∀d,e.dst=some d->k.dst≠some d/\(d∈k.looksAt ops.toArray->i∈uJ ops j))/\
  (∀d,k.dst=some d->d∈e.looksAt ops.toArray->j∈uJ ops i\/i∈uJ ops j):=by
 unfold kB at h;have m:i<ops.length:=(List.getElem?_eq_some_iff.1 hi).1;have f:j<ops.length:=(List.getElem?_eq_some_iff.1 p).1;have:=List.all_eq_true.1 h i (List.mem_range.2 m);rw[hi]at this;have q:Nat.blt (Gl P e) 3=true:=by simpa [Nat.blt_eq]using s
 simp only[q,Bool.and_eq_true,Bool.not_true,Bool.false_or]at this;have g:=List.all_eq_true.1 this.2.2 j (List.mem_range.2 f)
 have c:Nat.beq i j=false:=by
  cases r:Nat.beq i j with
  |false=>rfl
  |true=>exact absurd (Nat.eq_of_beq_eq_true r) n
 rw[p,c]at g;simp only[Bool.false_or,Bool.and_eq_true]at g;refine⟨λd l=>?_,λd l o=>?_⟩
 ·have b:=g.1;rw[l]at b;simp only[Bool.and_eq_true,bne_iff_ne,ne_eq,Bool.or_eq_true]at b;refine⟨b.1,λo=>?_⟩;rcases b.2 with a|a
  ·simp at a;exact absurd o a
  ·simpa using a
 ·have b:=g.2;rw[l]at b;simp only[Bool.or_eq_true]at b;rcases b with(a|a)|a
  ·simp at a;exact absurd o a
  ·exact .inl (by simpa using a)
  ·exact .inr (by simpa using a)
def pK(ops:List Oper)(L:List Nat):Prop:=∀i∈L,∀d∈gF ops i,d∈L
def IZ{ops:List Oper}{L:List Nat}(h:pK ops L):∀(f:Nat) (c acc:List Nat),(∀x∈c,x∈L)->(∀x∈acc,x∈L)->∀x∈MC ops f c acc,x∈L:=by
 intro f;induction f with
 |zero=>intro c acc _ d x b;exact d x b
 |succ f g=>
  intro c acc e d x b;cases c with
  |nil=>exact d x b
  |cons y r=>
   simp only[MC]at b;split at b
   ·exact g r acc (λz a=>e z (List.mem_cons_of_mem _ a)) d x b
   ·refine g _ _ (λz a=>?_) (λz a=>?_) x b
    ·rcases List.mem_append.1 a with a|a
     ·exact h y (e y List.mem_cons_self) z a
     ·exact e z (List.mem_cons_of_mem _ a)
    ·rcases List.mem_cons.1 a with rfl|a
     ·exact e z List.mem_cons_self
     ·exact d z a
def td{ops:List Oper}{L:List Nat}(b:pK ops L){j:Nat}(a:∀d∈gF ops j,d∈L):∀x∈uJ ops j,x∈L:=
 IZ b 4000 _ _ a (λ_ h=>by cases h)
def pK.cons{ops:List Oper}{L:List Nat}(e:pK ops L){j:Nat}(c:∀d∈gF ops j,d∈L):pK ops (j::L):=by
 intro i a d b;rcases List.mem_cons.1 a with rfl|a
 ·exact List.mem_cons_of_mem _ (c d b)
 ·exact List.mem_cons_of_mem _ (e i a d b)
def Ft{ops:List Oper}{done:List Nat}{i:Nat}:Lv ops done i=true↔i ∉ done/\∀d∈gF ops i,d∈done:=by
 simp[Lv]
def kg{ops:List Oper}{done:List Nat}{i:Nat}:i∈xA ops done↔i<ops.length/\i ∉ done/\∀d∈gF ops i,d∈done:=by
 simp[xA,List.mem_filter,Ft]
def vk(P:Program)(s:Sem Value)(w:World)(v:Value)(w' :World)(h:s.run P w=.ok v w'):(do pure (.value (<-s)):Sem Next).run P w=.ok (.value v) w' :=by
 simp[Sem.run_bind,h,Result.andThen]
def xg{P:Program}{ρ:Operand->Value}{o:Oper}{K:Value->Prop}(h:qY ρ o.op K):
  ∃v,(∀w,(execOp ρ o).run P w=.ok (.value v) w)/\K v:=by
 obtain⟨f,g,e,pos,d,guard⟩:=o;unfold qY at h;cases g<;>simp only at h<;>first|exact h.elim|skip
 case move x=>exact⟨_,λ_=>rfl,h⟩
 case pick c x y=>
  unfold xH at h;split at h
  ·rename_i b j
   refine⟨_,λw=>?_,h⟩;simp only[execOp,j,asBool,Sem.run_bind,Sem.run_pure,Result.andThen,B3]
  ·exact h.elim
 case nilCheck x=>
  unfold cD at h;split at h
  ·rename_i a i
   exact⟨_,λw=>by simp only[execOp,i,Sem.run_pure],h⟩
  ·exact h.elim
 case makeFunc fn first captured=>
  rw[iG,iG]at h;exact⟨_,λ_=>rfl,h⟩
def xu{P:Program}{ρ:Operand->Value}{o:Oper}{s:Sem Value}(h:pZ P ρ o.op=some s):execOp ρ o=(do pure (.value (<-s))):=by
 obtain⟨c,d,b,pos,a,guard⟩:=o;unfold pZ at h;cases d<;>simp only at h<;>first|(cases h;done)|(cases h;rfl)|skip
 case build t ps=>
  have h:Instr.build t ⟨ps.toList.map λp=>(p.1,ρ p.2)⟩=s:=by
   split at h
   ·exact Option.some.inj h
   ·exact Option.some.inj h
  subst h
  have e:(⟨ps.toList.map λp=>(p.1,ρ p.2)⟩:Array (Nat×Value))=ps.map λ(i,x)=>(i,ρ x):=by
   apply Array.ext';simp
  simp only[execOp];rw[e]
def wP{P:Program}{ρ:Operand->Value}{o:Oper}{s:Sem Value}(h:qj P ρ o=some s):execOp ρ o=(do pure (.value (<-s))):=by
 obtain⟨j,k,i,pos,e,guard⟩:=o;unfold qj at h;cases k<;>simp only at h<;>first|(cases h;done)|(cases h;rfl)|skip
 case load t x=>
  split at h
  ·cases h;rfl
  ·cases h;rfl
 case convert a b x=>
  split at h
  ·cases h
  ·split at h
   ·cases h;rfl
   ·cases h;rfl
 case call c=>
  obtain⟨d,g,l⟩:=c;cases d with
  |value f=>cases h
  |invoke r m=>cases h
  |builtin b=>
   cases b<;>simp only at h<;>first|(cases h;done)|skip
   all_goals
    rw[iG]at h;cases h;rfl
def J6(P:Program)(ops:List Oper)(E:dy)(w:World)(pend:oQ)(i:Nat):Prop:=
 ∃o,ops[i]? =some o/\Gl P o<3/\
  ((fD ops E o=true/\∃v,(∀d,o.dst=some d->E.get d=v)/\(execOp (ev E) o).run P w=.ok (.value v) w/\
    ((∀w',(execOp (ev E) o).run P w' =.ok (.value v) w')\/∃s,(i,s,v)∈pend/\∀w',s.run P w' =.ok v w' ->(execOp (ev E) o).run P w' =.ok (.value v) w'))\/
  (fD ops E o=false/\∀d,o.dst=some d->E.get d=undef))
def sn(ops:List Oper)(L:List Nat):List Nat->Prop
 | []=>True
 |i::A=>(∀d∈gF ops i,d∈L\/d∈A)/\sn ops L A
def sn.mono{ops:List Oper}{L b:List Nat}(h:∀x∈L,x∈b):∀{A:List Nat},sn ops L A->sn ops b A
 | [],_=>trivial
 |_::_,a=>⟨λd c=>(a.1 d c).imp (h d) id,sn.mono h a.2⟩
def sn.erase{ops:List Oper}{L:List Nat}{j:Nat}:∀{A:List Nat},sn ops L A->sn ops (j::L) (A.erase j)
 | [],_=>trivial
 |i::A,c=>by
  by_cases b:i=j
  ·subst b;rw[List.erase_cons_head];exact c.2.mono (λx f=>List.mem_cons_of_mem _ f)
  ·rw[List.erase_cons_tail (by simpa using b)];refine⟨λd e=>?_,c.2.erase⟩;rcases c.1 d e with h|h
   ·exact .inl (List.mem_cons_of_mem _ h)
   ·by_cases a:d=j
    ·exact .inl (by rw[a];exact List.mem_cons_self)
    ·exact .inr ((List.mem_erase_of_ne a).2 h)
def sn.first{ops:List Oper}{L:List Nat}:∀{A:List Nat},sn ops L A->A≠ []->∃i∈A,∀d∈gF ops i,d∈L
 | [],_,h=>absurd rfl h
 | [i],b,_=>⟨i,List.mem_cons_self,λd a=>(b.1 d a).resolve_right (by simp)⟩
 |i::k::A,b,_=>by
  obtain⟨j,c,a⟩:=b.2.first (by simp);exact⟨j,List.mem_cons_of_mem _ c,a⟩
structure ik(P:Program)(ops:List Oper)(n:Nat)(L A:List Nat)(done:List Nat)(pend:oQ)(E:dy)(a:Act)(w:World):Prop where
 doneIff:∀i,i∈done↔i∈L\/i∈A
 apart:∀i∈A,i ∉ L
 nodup:A.Nodup
 ord:sn ops L A
 closed:pK ops L
 size:a.tmps.size=n
 defs:a.defers=E.ds.map λd=>{target:=.collected d,args:=#[]}
 frame:∀t,(∀i∈A,∀o,ops[i]? =some o->o.dst≠some t)->a.tmps.getD t undef=E.get t
 val:∀i∈A,J6 P ops E w pend i
def ik.closedDone{P:Program}{ops:List Oper}{n:Nat}{L A done:List Nat}{e:oQ}{E:dy}{a:Act}{w:World}(h:ik P ops n L A done e E a w):pK ops done:=by
 have g:∀(A:List Nat),sn ops L A->∀i∈A,∀d∈gF ops i,d∈L\/d∈A:=by
  intro A;induction A with
  |nil=>intro _ i b;cases b
  |cons k A j=>
   intro f i b d c;rcases List.mem_cons.1 b with rfl|b
   ·exact(f.1 d c).imp id (List.mem_cons_of_mem _)
   ·exact(j f.2 i b d c).imp id (List.mem_cons_of_mem _)
 intro i b d c;rcases(h.doneIff i).1 b with b|b
 ·exact(h.doneIff d).2 (.inl (h.closed i b d c))
 ·exact(h.doneIff d).2 (g A h.ord i b d c)
def yS{P:Program}{ops:List Oper}{E E' :dy}{o:Oper}(d:oK o.op=true)(h:∀t∈o.looksAt ops.toArray,E'.get t=E.get t):
  execOp (ev E') o=execOp (ev E) o/\fD ops E' o=fD ops E o:=by
 constructor
 ·refine execOp_congr o (λn b m=>by rw[m]at d;cases d) λx l=>?_;cases x with
  |tmp t=>
   refine h t ?_;unfold Oper.looksAt;exact List.mem_append_left _ (List.mem_filterMap.2 ⟨.tmp t,by simpa using l,rfl⟩)
  |const v=>rfl
  |global g=>rfl
  |func f=>rfl
 ·unfold fD Region.wanted;cases e:o.guard with
  |none=>rfl
  |some g=>
   obtain⟨j,c⟩:=g;simp only;congr 1;unfold ug;cases k:ops[j]? with
   |none=>rfl
   |some i=>
    cases a:i.dst with
    |none=>simp[a]
    |some s=>
     simp only[a,Option.bind_some];rw[h s (by unfold Oper.looksAt;rw[e];simp[k,a])]
def J6.env{P:Program}{ops:List Oper}(l:kB P ops=true){E E' :dy}{w:World}{c a:oQ}{i:Nat}(h:J6 P ops E w c i)
  (j:∀o,ops[i]? =some o->∀t,t∈o.looksAt ops.toArray\/o.dst=some t->E'.get t=E.get t)(hp:∀x∈c,x∈a):J6 P ops E' w a i:=by
 obtain⟨o,e,u,r⟩:=h;have m:=yS (P:=P) (ops:=ops) (E:=E) (E' :=E') (iv l e) λt n=>j o e t (.inl n);refine⟨o,e,u,?_⟩;rw[m.1,m.2];rcases r with⟨k,v,g,p,f⟩|⟨k,g⟩
 ·refine .inl ⟨k,v,λd b=>(j o e d (.inr b)).trans (g d b),p,?_⟩;rcases f with f|⟨s,q,f⟩
  ·exact .inl f
  ·exact .inr ⟨s,hp _ q,f⟩
 ·exact .inr ⟨k,λd b=>(j o e d (.inr b)).trans (g d b)⟩
def J6.world{P:Program}{ops:List Oper}{E:dy}{w w' :World}{b a:oQ}{i:Nat}(h:J6 P ops E w b i)
  (hp:∀s v,(i,s,v)∈b->(i,s,v)∈a/\(w' =w\/s.run P w' =.ok v w')):J6 P ops E w' a i:=by
 obtain⟨o,k,m,d⟩:=h;refine⟨o,k,m,?_⟩;rcases d with⟨g,v,f,l,c⟩|d
 ·rcases c with c|⟨s,j,c⟩
  ·exact .inl ⟨g,v,f,c w',.inl c⟩
  ·refine .inl ⟨g,v,f,?_,.inr ⟨s,(hp s v j).1,c⟩⟩;rcases(hp s v j).2 with e|e
   ·rw[e];exact l
   ·exact c w' e
 ·exact .inr d
def ui{E:dy}{d:Option Nat}{v:Value}{t:Nat}(h:d≠some t):(E.put d v).get t=E.get t:=by
 cases d with
 |none=>rfl
 |some d=>rw[dy.get_put,if_neg (λe=>h (by rw[e]))]
def wx{E:dy}{d:Option Nat}{t:Nat}(h:d≠some t):(E.skip d).get t=E.get t:=by
 cases d with
 |none=>rfl
 |some d=>rw[dy.get_skip,if_neg (λe=>h (by rw[e]))]
def rB(E:dy)(d:Option Nat)(v:Value):(E.put d v).ds=E.ds:=by cases d<;>rfl
def te(E:dy)(d:Option Nat):(E.skip d).ds=E.ds:=by cases d<;>rfl
def ke{E:dy}{d:Nat}{v:Value}:(E.put (some d) v).get d=v:=by rw[dy.get_put,if_pos rfl]
def ph{E:dy}{d:Nat}:(E.skip (some d)).get d=undef:=by rw[dy.get_skip,if_pos rfl]
section
variable{P:Program}{ops:List Oper}{n:Nat}{L A done:List Nat}{pend:oQ}{E:dy}{a:Act}{w:World}
def ik.same(h:ik P ops n L A done pend E a w){E' :dy}(c:E.Same E')(b:kB P ops=true):ik P ops n L A done pend E' a w:=
 {h with
  defs:=by rw[c.2];exact h.defs
  frame:=λt d=>(h.frame t d).trans (c.1 t).symm
  val:=λi e=>(h.val i e).env b (λ_ _ t _=>c.1 t) (λ_ f=>f)}
def ik.look(h:ik P ops n L A done pend E a w)(g:kB P ops=true){j:Nat}{p:Oper}(k:ops[j]? =some p)(s:j ∉ L)(q:∀d∈gF ops j,d∈L):
  ∀t∈p.looksAt ops.toArray,a.tmps.getD t undef=E.get t:=by
 intro t l;refine h.frame t λi m r b c=>?_;obtain⟨u,f,o,_⟩:=h.val i m;rw[b]at f;cases f;by_cases e:i=j
 ·subst e;rw[k]at b;cases b;exact ue g k o c l
 ·have:=((kv g b k o e).1 t c).2 l;exact h.apart i m (td h.closed q i this)
def ik.ahead(h:ik P ops n L A done pend E a w)(g:kB P ops=true){i:Nat}{o:Oper}(hi:ops[i]? =some o)(D:Gl P o<3)(M:i∈xA ops done){E' :dy}{b:oQ}
  (C:(∀t,o.dst≠some t->E'.get t=E.get t)/\E'.ds=E.ds)(hp:∀x∈pend,x∈b)
  (O:(fD ops E o=true/\∃v,(∀d,o.dst=some d->E'.get d=v)/\(execOp (ev E) o).run P w=.ok (.value v) w/\
    ((∀p,(execOp (ev E) o).run P p=.ok (.value v) p)\/∃s,(i,s,v)∈b/\∀p,s.run P p=.ok v p->(execOp (ev E) o).run P p=.ok (.value v) p))\/
   (fD ops E o=false/\∀d,o.dst=some d->E'.get d=undef)):
  ik P ops n L (i::A) (i::done) b E' a w:=by
 obtain⟨I,q,r⟩:=kg.1 M;have B:i ∉ A:=λK=>q ((h.doneIff i).2 (.inr K));have F:i ∉ L:=λJ=>q ((h.doneIff i).2 (.inl J));refine⟨λk=>?_,λk c=>?_,List.nodup_cons.2 ⟨B,h.nodup⟩,⟨λd y=>(h.doneIff d).1 (r d y),h.ord⟩,h.closed,h.size,by rw[C.2];exact h.defs,λt j=>?_,λk c=>?_⟩
 ·simp only[List.mem_cons,h.doneIff];constructor
  ·rintro(h1|h1|h1)
   ·exact .inr (.inl h1)
   ·exact .inl h1
   ·exact .inr (.inr h1)
  ·rintro(h1|h1|h1)
   ·exact .inr (.inl h1)
   ·exact .inl h1
   ·exact .inr (.inr h1)
 ·rcases List.mem_cons.1 c with rfl|c
  ·exact F
  ·exact h.apart k c
 ·rw[h.frame t (λk c=>j k (List.mem_cons_of_mem _ c))];exact(C.1 t (j i List.mem_cons_self o hi)).symm
 ·have u:∀t∈o.looksAt ops.toArray,E'.get t=E.get t:=λt j=>C.1 t λy=>ue g hi D y j;rcases List.mem_cons.1 c with rfl|c
  ·have H:=yS (P:=P) (iv g hi) u;refine⟨o,hi,D,?_⟩;rw[H.1,H.2];exact O
  ·refine(h.val k c).env g (λok f t j=>C.1 t λy=>?_) hp;have z:k≠i:=λe=>B (e▸c);obtain⟨N,m,Q,_⟩:=h.val k c;rw[f]at m;cases m;rcases j with j|j
   ·have:=((kv g hi f D (Ne.symm z)).1 t y).2 j;have l:∀d∈gF ops k,d∈done:=λd G=>h.closedDone k ((h.doneIff k).2 (.inr c)) d G;exact q (td h.closedDone l i this)
   ·exact((kv g hi f D (Ne.symm z)).1 t y).1 j
def Sk(m:kB P ops=true){K:dy->World->Prop}{j:Nat}(Z:j∈xA ops L):∀(b:Nat) (A done:List Nat) (pend:oQ) (E:dy),
  ik P ops n L A done pend E a w->sj P ops b done pend E w K->
  ∃(F:Nat) (Y f:List Nat) (r:oQ) (E' :dy),ik P ops n L Y f r E' a w/\sj P ops F f r E' w K/\
   (j∈Y\/(j ∉ f/\(xA ops f).find? (HI P ops)=none)):=by
 intro b;induction b with
 |zero=>intro A done pend E _ h;exact h.elim
 |succ b S=>
  intro A done pend E O h;by_cases X:j∈A
  ·exact⟨b+1,A,done,pend,E,O,h,.inl X⟩
  ·cases R:(xA ops done).find? (HI P ops)with
   |none=>
    refine⟨b+1,A,done,pend,E,O,h,.inr ⟨λM=>?_,R⟩⟩;rcases(O.doneIff j).1 M with h1|h1
    ·exact(kg.1 Z).2.1 h1
    ·exact X h1
   |some i=>
    have z:i∈xA ops done:=List.mem_of_find?_eq_some R;have hp:=List.find?_some R;simp only[sj,R]at h;unfold HI at hp;cases J:ops[i]? with
    |none=>rw[J]at h;exact h.elim
    |some o=>
     rw[J]at h hp;simp only at hp;have T:Gl P o<3:=by simpa [Nat.blt_eq]using hp
     simp only at h;rcases re h with⟨W,l,Q,e⟩|⟨W,l,Q,U⟩
     ·have q:=O.same Q m;have u:fD ops l o=true:=by rw[Q.wanted];exact W
      have G:∀v,(∀t,o.dst≠some t->(l.put o.dst v).get t=l.get t)/\(l.put o.dst v).ds=l.ds:=λv=>⟨λt V=>ui V,rB _ _ _⟩
      have k:∀v d,o.dst=some d->(l.put o.dst v).get d=v:=λv d M=>by rw[M];exact ke
      cases I:Gl P o with
      |zero=>
       simp only[I]at e;obtain⟨v,C,N⟩:=xg (P:=P) e;exact S _ _ _ _ (q.ahead m J T z (G v) (λ_ y=>y) (.inl ⟨u,v,k v,C w,.inl C⟩)) N
      |succ c=>
       cases c with
       |zero=>
        simp only[I]at e;cases g:pZ P (ev l) o.op with
        |none=>rw[g]at e;exact e.elim
        |some s=>
         rw[g]at e
         have H:sO P s λv=>sj P ops b (i::done) pend (l.put o.dst v) w K:=by
          simp only at e;split at e
          ·exact e.out
          ·exact e
         obtain⟨v,C,N⟩:=H.out;have y:=xu g;have p:∀B,(execOp (ev l) o).run P B=.ok (.value v) B:=λB=>by rw[y];exact vk P s B v B (C B)
         exact S _ _ _ _ (q.ahead m J T z (G v) (λ_ y=>y) (.inl ⟨u,v,k v,p w,.inl p⟩)) N
       |succ c=>
        simp only[I]at e;cases g:qj P (ev l) o with
        |none=>rw[g]at e;exact e.elim
        |some s=>
         rw[g]at e
         have H:sY P s w λv=>sj P ops b (i::done) ((i,s,v)::pend) (l.put o.dst v) w K:=by
          simp only at e;split at e
          ·exact e.out
          ·exact e
         clear e;have e:=H;simp only[qO,yr]at e;cases C:s.run P w with
         |halt x B=>rw[C]at e;exact e.elim
         |ok v B=>
          rw[C]at e;obtain⟨rfl,N⟩:=e;have y:=wP g;have p:∀D,s.run P D=.ok v D->(execOp (ev l) o).run P D=.ok (.value v) D:=λD h1=>by rw[y];exact vk P s D v D h1
          exact S _ _ _ _ (q.ahead m J T z (G v) (λ_ y=>List.mem_cons_of_mem _ y)
           (.inl ⟨u,v,k v,p _ C,.inr ⟨s,List.mem_cons_self,p⟩⟩)) N
     ·have q:=O.same Q m;have u:fD ops l o=false:=by rw[Q.wanted];exact W
      exact S _ _ _ _ (q.ahead m J T z ⟨λt V=>wx V,te _ _⟩ (λ_ y=>y)
       (.inr ⟨u,λd M=>by rw[M];exact ph⟩)) U
def xL{F:Nat->Prop}:∀{l:List Nat},Cj F l->∀j∈l,F j
 | [],_,j,b=>by cases b
 | [k],h,j,b=>by rcases List.mem_singleton.1 b with rfl;exact h
 |k::m::l,h,j,b=>by
  rcases List.mem_cons.1 b with rfl|b
  ·exact h.1
  ·exact xL h.2 j b
def vr{P:Program}{w:World}{R:Prop}:∀{p:oQ},tw P w p R->R/\∀i s v,(i,s,v)∈p->s.run P w=.ok v w
 | [],h=>⟨h,λ_ _ _ b=>by cases b⟩
 |(i,s,v)::r,h=>by
  obtain⟨h1,f⟩:=vr h.2;refine⟨h1,λg c d b=>?_⟩;rcases List.mem_cons.1 b with e|b
  ·cases e;exact h.1
  ·exact f g c d b
def ik.took(h:ik P ops n L A done pend E a w)(x:kB P ops=true){j:Nat}{o:Oper}(y:ops[j]? =some o)(u:j∈A)(i:∀d∈gF ops j,d∈L){v:Value}
  (z:∀d,o.dst=some d->E.get d=v)(p:oS n o.dst=true):ik P ops n (j::L) (A.erase j) done pend E (a.put o.dst v) w:=by
 have e:nP n (({l:=[],g:=λt=>a.tmps.getD t undef,ds:=E.ds}:dy).put o.dst v) (a.put o.dst v):=nP.put (E:=({l:=[],g:=λt=>a.tmps.getD t undef,ds:=E.ds}:dy)) ⟨h.size,λ_=>rfl,h.defs⟩ p v;refine⟨λk=>?_,λk m r=>?_,h.nodup.erase j,h.ord.erase,h.closed.cons i,e.size,by have:=e.defs;rwa[rB]at this,λt s=>?_,λk m=>h.val k (List.mem_of_mem_erase m)⟩
 ·rw[h.doneIff];by_cases b:k=j
  ·subst b;simp[u]
  ·simp[b,List.mem_erase_of_ne b]
 ·have q:=List.mem_of_mem_erase m;rcases List.mem_cons.1 r with rfl|r
  ·exact(h.nodup.not_mem_erase) m
  ·exact h.apart k q r
 ·rw[e.get];by_cases f:o.dst=some t
  ·rw[f,ke,z t f]
  ·rw[ui f];refine h.frame t λk m ok c=>?_;by_cases b:k=j
   ·subst b;rw[y]at c;cases c;exact f
   ·exact s k ((List.mem_erase_of_ne b).2 m) ok c
def ik.acted(h:ik P ops n L A done pend E a w)(D:kB P ops=true){j:Nat}{o:Oper}(S:ops[j]? =some o)(J:j ∉ done)(f:∀d∈gF ops j,d∈L){v:Value}{E' :dy}{w' :World}
  (M:(∀t,o.dst≠some t->E'.get t=E.get t)/\E'.ds=E.ds/\(∀d,o.dst=some d->E'.get d=v))(H:oS n o.dst=true)
  (hp:∀i s u,(i,s,u)∈(pend.filter λp=> !(uJ ops j).contains p.1)->w' =w\/s.run P w' =.ok u w'):
  ik P ops n (j::L) A (j::done) (pend.filter λp=> !(uJ ops j).contains p.1) E' (a.put o.dst v) w' :=by
 have G:j ∉ A:=λT=>J ((h.doneIff j).2 (.inr T));have m:nP n (({l:=[],g:=λt=>a.tmps.getD t undef,ds:=E.ds}:dy).put o.dst v) (a.put o.dst v):=nP.put (E:=({l:=[],g:=λt=>a.tmps.getD t undef,ds:=E.ds}:dy)) ⟨h.size,λ_=>rfl,h.defs⟩ H v;have b:∀i∈A,i ∉ uJ ops j:=λi V C=>h.apart i V (td h.closed f i C);refine⟨λk=>?_,λk r N=>?_,h.nodup,h.ord.mono (λx O=>List.mem_cons_of_mem _ O),h.closed.cons f,m.size,by have:=m.defs;rw[rB]at this;rw[M.2.1];exact this,λt B=>?_,λk r=>?_⟩
 ·simp only[List.mem_cons,h.doneIff,or_assoc]
 ·rcases List.mem_cons.1 N with rfl|N
  ·exact G r
  ·exact h.apart k r N
 ·rw[m.get];by_cases y:o.dst=some t
  ·rw[y,ke,M.2.2 t y]
  ·rw[ui y,M.1 t y];exact h.frame t B
 ·have h1:J6 P ops E' w pend k:=by
   refine(h.val k r).env D (λok c t B=>M.1 t λR=>?_) (λ_ O=>O);obtain⟨U,z,K,_⟩:=h.val k r;rw[c]at z;cases z;have I:k≠j:=λe=>G (e▸r);rcases B with B|B
   ·rcases(kv D c S K I).2 t R B with C|C
    ·have q:∀d∈gF ops k,d∈done:=λd Q=>h.closedDone k ((h.doneIff k).2 (.inr r)) d Q;exact J (td h.closedDone q j C)
    ·exact b k r C
   ·exact((kv D c S K I).1 t B).1 R
  refine h1.world λs v C=>?_;have F:(k,s,v)∈pend.filter λp=> !(uJ ops j).contains p.1:=List.mem_filter.2 ⟨C,by simpa using b k r⟩;exact⟨F,hp k s v F⟩
end
def rm{ops:List Oper}{L:List Nat}{b:Array Bool}(k:∀i,i<ops.length->(b.getD i true=true↔i∈L))(q:b.size=ops.length)(g:∀i∈L,i<ops.length){i:Nat}:
  i∈Region.ready .any ops.toArray b↔i∈xA ops L:=by
 rw[kg];unfold Region.ready;simp only[List.mem_filter,List.mem_range,List.size_toArray,Bool.and_eq_true];constructor
 ·rintro⟨h1,j,l⟩;refine⟨h1,λs=>?_,λd c=>?_⟩
  ·rw[(k i h1).2 s]at j;simp at j
  ·have h:ops[i]? =some ops[i]:=List.getElem?_eq_getElem h1;simp only[List.getElem?_toArray,h,Option.map_some,Option.getD_some]at l;simp only[gF,h,wX,List.mem_map,List.mem_filter]at c;obtain⟨e,⟨o,m⟩,rfl⟩:=c;have f:=(Array.all_eq_true'.1 l) e (by simpa using o);simp only[m,Bool.not_true,Bool.false_or]at f;by_cases p:e.on<ops.length
   ·refine(k _ p).1 ?_;rw[Array.getD_eq_getD_getElem?]at f|-;rw[Array.getElem?_eq_getElem (by omega)]at f|-;simpa using f
   ·rw[Array.getD_eq_getD_getElem?,Array.getElem?_eq_none (by omega)]at f;simp at f
 ·rintro⟨h1,j,l⟩;refine⟨h1,?_,?_⟩
  ·cases r:b.getD i true with
   |false=>rfl
   |true=>exact absurd ((k i h1).1 r) j
  ·have h:ops[i]? =some ops[i]:=List.getElem?_eq_getElem h1;simp only[List.getElem?_toArray,h,Option.map_some,Option.getD_some];refine Array.all_eq_true'.2 λe o=>?_;cases m:Region.binds .any e with
   |false=>rfl
   |true=>
    have c:e.on∈L:=l e.on (by simp only[gF,h,wX,List.mem_map,List.mem_filter];exact⟨e,⟨by simpa using o,m⟩,rfl⟩);have:=(k _ (g _ c)).2 c;rw[Array.getD_eq_getD_getElem?]at this|-;rw[Array.getElem?_eq_getElem (by have:=g _ c;omega)]at this|-;simpa using this
def CY{P:Program}(hP:mU P=true){ro:Option Nat}{n:Nat}{ops:List Oper}(y:kB P ops=true)(hdst:(ops.all λo=>oS n o.dst)=true)
  {Q:Exit->Act->World->Prop}{K:dy->World->Prop}(hK:∀E a w,nP n E a->K E w->Q .normal a w):
  ∀(m:Nat) (L A done:List Nat) (pend:oQ) (E:dy) (a:Act) (w:World) (l:Nat) (b:Array Bool),
   ik P ops n L A done pend E a w->(∀i,i<ops.length->(b.getD i true=true↔i∈L))->b.size=ops.length->(∀i∈L,i<ops.length)->
   ((List.range ops.length).filter λi=> !L.contains i).length<=m->sj P ops l done pend E w K->
   wpAnyIn (FR ro) 0 P .any ops.toArray Q m b a w:=by
 have F:∀(L A done:List Nat) (pend:oQ) (E:dy) (a:Act) (w:World) (l:Nat),ik P ops n L A done pend E a w->xA ops L=[]->sj P ops l done pend E w K->Q .normal a w:=by
  intro L A done pend E a w l N W h
  have hA:A=[]:=by
   apply Classical.byContradiction;intro hne;obtain⟨i,B,M⟩:=N.ord.first hne;obtain⟨o,ho,_⟩:=N.val i B;have:i∈xA ops L:=kg.2 ⟨(List.getElem?_eq_some_iff.1 ho).1,N.apart i B,M⟩;rw[W]at this;cases this
  subst hA
  have hrd:xA ops done=[]:=by
   apply List.eq_nil_iff_forall_not_mem.2;intro i B;obtain⟨h1,h2,h3⟩:=kg.1 B;have e:∀k,k∈done↔k∈L:=λk=>by rw[N.doneIff];simp
   have:i∈xA ops L:=kg.2 ⟨h1,λhm=>h2 ((e i).2 hm),λd M=>(e d).1 (h3 d M)⟩;rw[W]at this;cases this
  cases l with
  |zero=>exact h.elim
  |succ l=>
   simp only[sj,hrd,List.find?_nil]at h;exact hK E a w ⟨N.size,λt=>N.frame t (λi B=>by cases B),N.defs⟩ h
 intro m;induction m with
 |zero=>
  intro L A done pend E a w l b N hL I O hm h
  have W:xA ops L=[]:=by
   apply List.eq_nil_iff_forall_not_mem.2;intro i B;obtain⟨h1,h2,_⟩:=kg.1 B;have:i∈(List.range ops.length).filter λi=> !L.contains i:=List.mem_filter.2 ⟨List.mem_range.2 h1,by simpa using h2⟩;have:=List.length_pos_of_mem this;omega
  refine⟨?_,F L A done pend E a w l N W h⟩;apply List.eq_nil_iff_forall_not_mem.2;intro i B;rw[rm hL I O,W]at B;cases B
 |succ m ih=>
  intro L A done pend E a w l b N hL I O hm h;refine⟨λW=>F L A done pend E a w l N ?_ h,λj hj=>?_⟩
  ·apply List.eq_nil_iff_forall_not_mem.2;intro i B;rw[<-rm hL I O,W]at B;cases B
  ·have hjr:j∈xA ops L:=(rm hL I O).1 hj;obtain⟨C,hjL,J⟩:=kg.1 hjr;have z:ops[j]? =some ops[j]:=List.getElem?_eq_getElem C;have V:oS n (ops[j]).dst=true:=List.all_eq_true.1 hdst _ (List.getElem_mem C)
   have U:∀i,i<ops.length->((b.setIfInBounds j true).getD i true=true↔i∈j::L):=by
    intro i B;by_cases Z:j=i
    ·subst Z;simp[I,B]
    ·have:(b.setIfInBounds j true).getD i true=b.getD i true:=by
      simp[Z]
     rw[this,hL i B];simp[Ne.symm Z]
   have G:(b.setIfInBounds j true).size=ops.length:=by simpa using I
   have H:∀i∈j::L,i<ops.length:=λi B=>by
    rcases List.mem_cons.1 B with rfl|B
    ·exact C
    ·exact O i B
   have T:((List.range ops.length).filter λi=> !(j::L).contains i).length<=m:=by
    have e:((List.range ops.length).filter λi=> !(j::L).contains i)=(((List.range ops.length).filter λi=> !L.contains i).filter λi=> !(i==j)):=by
     rw[List.filter_filter];apply List.filter_congr;intro x _;simp only[List.contains_cons,Bool.not_or]
    have hmem:j∈(List.range ops.length).filter λi=> !L.contains i:=List.mem_filter.2 ⟨List.mem_range.2 C,by simpa using hjL⟩
    have h5:(((List.range ops.length).filter λi=> !L.contains i).filter λi=> !(i==j)).length<((List.range ops.length).filter λi=> !L.contains i).length:=
     List.length_filter_lt_length_iff_exists.2 ⟨j,hmem,by simp⟩
    rw[e];omega
   obtain⟨g,A',r,q,E',D,h',hcase⟩:=Sk y hjr l A done pend E N h;have R:=D.look y z hjL J;have hex:=wQ (a:=a) (E:=E') (iv y z) R;have hwa:=tU (a:=a) (E:=E') (o:=ops[j]) R;unfold wpOpIn;simp only[List.getElem?_toArray,z];rw[hwa];rcases hcase with hA|⟨hnd,X⟩
   ·obtain⟨o,ho,hc,hv⟩:=D.val j hA;rw[z]at ho;cases ho;rcases hv with⟨hw,v,M,W,_⟩|⟨hw,M⟩
    ·rw[if_pos hw];refine⟨λf _=>FR.fn ro f,?_⟩;rw[FR.round,Oper.semAt_eq ro a.eval _ (λc hc' =>by have:=iv y z;rw[hc']at this;cases this),hex,W];exact ih _ _ _ _ _ _ _ g _ (D.took y z hA J M V) U G H T h'
    ·rw[if_neg (by rw[hw];simp)];exact⟨λf _=>FR.fn ro f,ih _ _ _ _ _ _ _ g _ (D.took y z hA J M V) U G H T h'⟩
   ·cases g with
    |zero=>exact h'.elim
    |succ g=>
     have S:j∈xA ops r:=kg.2 ⟨C,hnd,λd M=>(D.doneIff d).2 (.inl (J d M))⟩;simp only[sj,X]at h'
     have h2:∀rs,xA ops r=rs->(match rs with| []=>K E' w|rs=>Cj (λj=>match ops[j]? with
       |none=>False
       |some o=>Ho ops o E' (λE=>Ha P (ev E) o w λv w' =>tw P w' (q.filter λp=> !(uJ ops j).contains p.1) (sj P ops g (j::r) (q.filter λp=> !(uJ ops j).contains p.1) (E.put o.dst v) w' K))
        (λE=>sj P ops g (j::r) (q.filter λp=> !(uJ ops j).contains p.1) (E.skip o.dst) w K)) rs)->
       Ho ops ops[j] E' (λE=>Ha P (ev E) ops[j] w λv w' =>tw P w' (q.filter λp=> !(uJ ops j).contains p.1) (sj P ops g (j::r) (q.filter λp=> !(uJ ops j).contains p.1) (E.put (ops[j]).dst v) w' K))
        (λE=>sj P ops g (j::r) (q.filter λp=> !(uJ ops j).contains p.1) (E.skip (ops[j]).dst) w K):=by
      intro rs hrs hh;cases rs with
      |nil=>rw[hrs]at S;cases S
      |cons k rs=>
       have:=xL hh j (hrs▸S);rw[z]at this;exact this
     have h3:=h2 _ rfl h';rcases re h3 with⟨hw,E1,hs,hy⟩|⟨hw,E1,hs,hno⟩
     ·rw[if_pos hw];have Y:=D.same hs y;refine tT (ρ:=ev E1) (iv y z) (by rw[hex,hs.ev]) (uW hP (BJ E1) hy) λv w' hv=>?_;obtain⟨hv1,hv2⟩:=vr hv;exact ih _ _ _ _ _ _ _ g _ (Y.acted y z hnd J ⟨λt ht=>ui ht,rB _ _ _,λd M=>by rw[M];exact ke⟩ V (λi s u hm=>.inr (hv2 i s u hm))) U G H T hv1
     ·rw[if_neg (by rw[hw];simp)];have Y:=D.same hs y;refine⟨λf _=>FR.fn ro f,?_⟩;have hI2:=Y.acted (v:=undef) (w' :=w) (E' :=E1.skip (ops[j]).dst) y z hnd J ⟨λt ht=>wx ht,te _ _,λd M=>by rw[M];exact ph⟩ V (λi s u hm=>.inl rfl);exact ih _ _ _ _ _ _ _ g _ hI2 U G H T hno
end Go.Vc
