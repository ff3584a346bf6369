/- Part of a proof. -/
import Derived.Test.YtekbnpagidkbbaaGreatR4
set_option linter.all false
set_option maxRecDepth 100000
set_option maxHeartbeats 4000000
namespace Go.Vc
open Go Go.Vc
variable {S:Type}{w:Wt_}
inductive Sy where
 |t (v:Vt_)
 |b (c:Bool)
 |u
abbrev El:=List (Nat×Sy)
abbrev Om:=Option (List Nat)
def Sy.v(s:Sy):Value:=match s with
 | .t v=>v
 | .b c=>.bool c
 | .u=>undef
def Xp(v:Vt_):Sy:=match v with
 | .bool b=>.b b
 |v=>.t v
def zV:Bool->Sy->El->Nat->Sy
 |true,s,_,_=>s
 |false,_,[],_=>.u
 |false,_,(k,s)::r,t=>zV (k==t) s r t
def yF(l:El)(x:Operand):Sy:=match x with
 | .tmp t=>zV false .u l t
 | .const v=>Xp v
 | .global g=>.t (bO g 0)
 | .func f=>.t (.func (.func f) #[] #[])
def gj(l:El)(x:Operand):Value:=(yF l x).v
def pS(l:El):List Operand->List Value
 | []=>[]
 |x::r=>gj l x::pS l r
def zB(l:El):List (Nat×Operand)->List (Nat×Value)
 | []=>[]
 |(i,x)::r=>(i,gj l x)::zB l r
def EY(l:El)(x:Option Operand):Option Value:=match x with
 |none=>none
 |some x=>some (gj l x)
def Tf:List Operand->List Bool
 | []=>[]
 |x::r=>FM x::Tf r
def pM(d:Option Nat)(s:Sy)(l:El):El:=match d with
 |none=>l
 |some d=>(d,s)::l
def HV:Nat->List Value->El
 |_,[]=>[]
 |i,v::r=>(i,.t v)::HV (i+1) r
def zT(l:El):(L:List Nat)->EZ L
 | []=>()
 |t::r=>((zV false .u l t).v,zT l r)
def DC:(L:List Nat)->EZ L->El->El
 | [],_,l=>l
 |t::r,s,l=>(t,.t s.1)::DC r s.2 l
def KK:List Nat->Nat->List Value->El->El
 | [],_,_,l=>l
 |t::r,i,x,l=>KK r (i+1) x ((t,.t (x.getD i undef))::l)
def Jg(d:Om):List Nat:=match d with
 |none=>[]
 |some d=>d
def Tx{α:Type}:List α->Nat
 | []=>0
 |_::r=>Tx r+1
def OF:List Value->Value->List Value
 | [],v=>[v]
 |x::r,v=>x::OF r v
def RY(l:LV_):Value:=match l with
 | [v]=>v
 |l=>.tuple l.toArray
def vj(B t:Nat):Bool:=(B>>>t)%2==1
def Lq(t:Nat):Nat:=2 ^ (t / 2)*2 ^ (t - t / 2)
def Og(b:Bool):Bool:=match b with
 |true=>false
 |false=>true
def NF(a b:Bool):Bool:=match a with
 |true=>b
 |false=>false
def uS(a b:Bool):Bool:=match a with
 |true=>true
 |false=>b
inductive Ac where
 |q (s:Sy)
 |pk (v x y:Vt_)
 |nk (v:Vt_)
 |v (s:Sem Value)
 |x (s:Sem Value)
 |n (s:Sem Next)
 |c (f:FuncId) (a:LV_)
 |rn (f:FuncId) (a:LV_)
 |f (g:Vt_) (a:LV_)
 |u (s:Sem Unit)
 |y (s:Sem Unit)
 |p (s:Sem Value)
 |px (s:Sem Value)
 |w (s:Sem Value)
 |wx (s:Sem Value)
 |z
def BN(b:Bool)(x y:Ac):Ac:=match b with
 |true=>x
 |false=>y
def Mi(c x y:Sy):Ac:=match c with
 | .b true=>.q x
 | .b false=>.q y
 |c=>.pk c.v x.v y.v
def T3(B S N:Nat)(l:El)(o:Oper):Ac:=match o.op with
 | .move x=>.q (yF l x)
 | .assign x=>.q (yF l x)
 | .pick c x y=>Mi (yF l c) (yF l x) (yF l y)
 | .nilCheck x=>.nk (gj l x)
 | .makeFunc f a b=>.q (.t (.func f (pS l a.toList).toArray (pS l b.toList).toArray))
 | .alloc e=>BN (vj B e) (.x (uK e)) (.v (iA e true (.tuple #[])))
 | .box e x=>.v (Instr.box e (gj l x))
 | .build t ps=>BN (vj B t) (.x (CA t (zB l ps.toList).toArray)) (.v (Instr.build t (zB l ps.toList).toArray))
 | .buildSlice t n ps=>.x (rg t n (zB l ps.toList))
 | .load t x=>BN (vj B t) (.x (qE t (gj l x))) (.v (iL t (gj l x)))
 | .store t x y=>BN (vj B t) (.y (rS t (gj l x) (gj l y))) (.u (iS t (gj l x) (gj l y)))
 | .binOp op t x y _=>.v (io op t (uS (FM x) (FM y)) (gj l x) (gj l y))
 | .unOp op _ x=>.v (Op.unary op (gj l x))
 | .convert s d x=>BN (uS (vj S s) (vj S d)) (.x (xA s d (gj l x))) (.v (convert s d (gj l x)))
 | .sliceToArrayPointer t x=>.v (Instr.arrayAt t (gj l x))
 | .makeInterface t x=>.v (Instr.makeInterface t (gj l x))
 | .makeMap t r=>.v (Instr.makeMap t (EY l r))
 | .makeSlice t a b=>.x (Ec t (gj l a) (gj l b))
 | .slice t x a b c=>.v (Instr.sliceAt t (gj l x) (EY l a) (EY l b) (EY l c))
 | .fieldAddr t x f=>.v (iF t (gj l x) f)
 | .field t x f=>.v (Instr.field t (gj l x) f)
 | .indexAddr t x i=>.v (iX t (gj l x) (gj l i))
 | .index t x i=>.v (Instr.index t (gj l x) (gj l i))
 | .lookup t x i ok=>.x (jQ t (gj l x) (gj l i) ok)
 | .mapUpdate t m k x=>.y (qX t (gj l m) (gj l k) (gj l x))
 | .insert t m k x=>.y (qX t (gj l m) (gj l k) (gj l x))
 | .range t x=>.x (Bo t (gj l x))
 | .next it s=>.x (Ea (gj l it) s o.type)
 | .entry it=>.x (Bq (gj l it))
 | .mapEntry t m k=>.x (KQ t (gj l m) (gj l k))
 | .entryStore t m s x=>.y (Pq t (gj l m) (gj l s) (gj l x))
 | .typeAssert x t u ok=>.v (Instr.typeAssert (gj l x) t u ok)
 | .extract t i=>.v (Instr.extract (gj l t) i)
 | .call c=>match c.callee with
  | .value (.func f)=>BN (vj N f) (.rn f (pS l c.args.toList)) (.c f (pS l c.args.toList))
  | .value f=>.f (gj l f) (pS l c.args.toList)
  | .builtin .append=>.x (fb c.argTypes o.type (pS l c.args.toList))
  | .builtin .copy=>.x (Lh c.argTypes o.type (pS l c.args.toList))
  | .builtin .delete=>.x (tU c.argTypes o.type (pS l c.args.toList))
  | .builtin .clear=>.x (A7 c.argTypes o.type (pS l c.args.toList))
  | .builtin b=>.n (builtin b c.argTypes o.type (Tf c.args.toList).toArray (pS l c.args.toList).toArray)
  |_=>.z
 |_=>.z
def R2(S:Nat)(o:Oper):Bool:=match o.op with
 | .move _| .pick .. | .nilCheck _| .makeFunc .. =>true
 | .binOp .. | .unOp .. | .fieldAddr .. | .field .. | .indexAddr .. | .index .. | .slice .. | .sliceToArrayPointer .. | .extract .. | .build .. | .makeInterface .. =>true
 | .load .. | .lookup .. =>true
 | .convert _ d _=>Og (vj S d)
 | .call c=>match c.callee with
  | .builtin .len=>true
  | .builtin .min=>true
  | .builtin .max=>true
  |_=>false
 |_=>false
def WJ(B S:Nat)(l:El)(o:Oper):Ac:=match o.op with
 | .move x=>.q (yF l x)
 | .pick c x y=>Mi (yF l c) (yF l x) (yF l y)
 | .nilCheck x=>.nk (gj l x)
 | .makeFunc f a b=>.q (.t (.func f (pS l a.toList).toArray (pS l b.toList).toArray))
 | .build t ps=>BN (vj B t) (.px (CA t (zB l ps.toList).toArray)) (.p (Instr.build t (zB l ps.toList).toArray))
 | .binOp op t x y _=>.p (io op t (uS (FM x) (FM y)) (gj l x) (gj l y))
 | .unOp op _ x=>.p (Op.unary op (gj l x))
 | .sliceToArrayPointer t x=>.p (Instr.arrayAt t (gj l x))
 | .makeInterface t x=>.p (Instr.makeInterface t (gj l x))
 | .slice t x a b c=>.p (Instr.sliceAt t (gj l x) (EY l a) (EY l b) (EY l c))
 | .fieldAddr t x f=>.p (iF t (gj l x) f)
 | .field t x f=>.p (Instr.field t (gj l x) f)
 | .indexAddr t x i=>.p (iX t (gj l x) (gj l i))
 | .index t x i=>.p (Instr.index t (gj l x) (gj l i))
 | .extract t i=>.p (Instr.extract (gj l t) i)
 | .load t x=>BN (vj B t) (.wx (qE t (gj l x))) (.w (iL t (gj l x)))
 | .lookup t x i ok=>.wx (jQ t (gj l x) (gj l i) ok)
 | .convert s d x=>BN (uS (vj S s) (vj S d)) (.wx (xA s d (gj l x))) (.w (convert s d (gj l x)))
 | .call c=>match c.callee with
  | .builtin .len=>.w (Builtin.len_ c.argTypes o.type (pS l c.args.toList).toArray)
  | .builtin .min=>.w (Builtin.min_ c.argTypes o.type (pS l c.args.toList).toArray)
  | .builtin .max=>.w (Builtin.max_ c.argTypes o.type (pS l c.args.toList).toArray)
  |_=>.z
 |_=>.z
inductive Gd where
 |y
 |n
 |a (v:Vt_) (s:Nat) (c:Bool)
def LO:List Oper->Nat->Option Nat
 | [],_=>none
 |o::_,0=>o.dst
 |_::r,j+1=>LO r j
def SC(b c:Bool):Gd:=match b,c with
 |true,true=>.y
 |false,false=>.y
 |_,_=>.n
def SN(s:Sy)(d:Nat)(c:Bool):Gd:=match s with
 | .u=>.n
 | .b b=>SC b c
 | .t v=>.a v d c
def SG(d:Option Nat)(c:Bool)(l:El):Gd:=match d with
 |none=>.n
 |some d=>SN (zV false .u l d) d c
def Oc(ops:List Oper)(l:El)(g:Option (Nat×Bool)):Gd:=match g with
 |none=>.y
 |some (j,c)=>SG (LO ops j) c l
structure NN where
 i:Nat
 m:Nat
 dm:Nat
 am:Nat
 rd:Bool
 o:Oper
def WQ(g:Ground)(x:Nat):Nat:=match g with
 | .textOnly _=>0
 | .gcOnly _=>0
 |_=>x
def yk:List Edge->Nat
 | []=>0
 |e::r=>WQ e.ground (2 ^ e.on)|||yk r
def Hz(dm:Nat):List (Nat×Nat)->Nat
 | []=>0
 |(i,a)::r=>((dm / i)%2*a)|||Hz dm r
def xh(S:Nat):List Oper->Nat->List (Nat×Nat)->List NN
 | [],_,_=>[]
 |o::r,i,A=>⟨i,yk o.after.toList|||i,yk o.after.toList,yk o.after.toList|||Hz (yk o.after.toList) A,R2 S o,o⟩::
   xh S r (i*2) ((i,yk o.after.toList|||Hz (yk o.after.toList) A)::A)
def Ld:Bool->Option NN->List NN->Nat->Option NN
 |true,e,_,_=>e
 |false,_,[],_=>none
 |false,_,e::r,dn=>Ld (NF e.rd (dn&&& e.m==e.dm)) (some e) r dn
def Jy(b:Bool)(e:NN)(l:List NN):List NN:=match b with
 |true=>e::l
 |false=>l
def K4(dn:Nat):List NN->List NN
 | []=>[]
 |e::r=>Jy (dn&&& e.m==e.dm) e (K4 dn r)
abbrev Pd:=List (Nat×Sem Value×Value)
def P5(b:Bool)(p:Nat×Sem Value×Value)(l:Pd):Pd:=match b with
 |true=>p::l
 |false=>l
def Pr(am:Nat):Pd->Pd
 | []=>[]
 |(i,s,v)::r=>P5 (am&&& i==0) (i,s,v) (Pr am r)
structure Rg where
 ops:List Oper
 es:List NN
def RJ(a b:Nat):Nat:=a+b - (a+b - 2)
def UA(a b:Nat):Nat:=a*b - (a*b - 2)
def vx:Code->Bool
 | .seq a b=>uS (vx a) (vx b)
 | .cond _ a b=>uS (vx a) (vx b)
 | .block _ c=>vx c
 | .loop c=>vx c
 | .scope c=>vx c
 | .rangeFunc .. =>true
 | .skip=>false
 | .region .. =>false
 | .exit _=>false
 | .label _=>false
 | .goto _=>false
 | .ret=>false
 | .refuse _=>false
def Fo:List Oper->Bool
 | []=>false
 |o::r=>uS (match o.guard with|none=>false|some _=>true) (Fo r)
def Fm(o:Oper):Bool:=match o.op with
 | .alloc _| .box .. | .buildSlice .. | .makeSlice .. | .makeMap .. | .call _| .store .. | .mapUpdate .. | .insert .. | .mapEntry .. | .entryStore .. =>true
 |_=>false
def JW(b:Bool)(m i am:Nat):Bool:=match b with
 |true=>Og (m&&& am==m)
 |false=>false
def Kc(b:Bool)(m i:Nat):Nat:=match b with
 |true=>m|||i
 |false=>m
def LX:List NN->Nat->Bool
 | [],_=>false
 |e::r,m=>uS (JW (Fm e.o) m e.i e.am) (LX r (Kc (Fm e.o) m e.i))
def Q9(S:Nat)(ops:List Oper)(draw:Bool):Nat:=match uS (Fo ops) (NF draw (LX (xh S ops 1 []) 0))with
 |true=>2
 |false=>1
def Xj(b:Bool)(x y:Nat):Nat:=match b with
 |true=>x
 |false=>y
def Sf:List Oper->Nat
 | []=>0
 | [_]=>1
 | [_,_]=>2
 |_::_::_::_=>3
def DE:Code->Nat
 | .region _ ops _=>Sf ops.toList
 | .seq a b=>DE a+DE b
 | .cond _ _ _=>9
 | .block _ c=>DE c
 | .loop _=>9
 | .rangeFunc .. =>9
 | .skip=>0
 | .scope _=>0
 | .exit _=>0
 | .label _=>0
 | .goto _=>0
 | .ret=>0
 | .refuse _=>0
def HA:Bool->Nat->List (Nat×Nat)->Nat->Nat
 |true,x,_,_=>x
 |false,_,[],_=>0
 |false,_,(k,x)::r,i=>HA (k==i) x r i
def Ih:List (Nat×Nat)->List (Nat×Nat)->List (Nat×Nat)
 | [],b=>b
 |(k,x)::r,b=>(k,RJ x (HA false 0 b k))::Ih r b
def KH(m:Nat):List (Nat×Nat)->List (Nat×Nat)
 | []=>[]
 |(k,x)::r=>(k,UA m x)::KH m r
def Lr(n:Nat)(a b:Code):Bool:=NF (n==2) (NF (Og (vx a)) (Og (DE b / 3==0)))
structure Xs where
 n:Nat
 l:List (Nat×Nat)
def Qc(n:Nat)(x y:Xs):Xs:=⟨UA n y.n,Ih x.l (KH n y.l)⟩
def Xh(x y:Xs)(a b:Code):Xs:=Qc (Xj (Lr x.n a b) 1 x.n) x y
def Yp(x y:Xs):Xs:=⟨RJ x.n y.n,Ih x.l y.l⟩
def Xg(x:Xs)(i:Nat):Xs:=⟨RJ x.n (HA false 0 x.l i),x.l⟩
def xP(S:Nat):Code->Xs
 | .region _ ops d=>⟨Q9 S ops.toList d,[]⟩
 | .seq a b=>Xh (xP S a) (xP S b) a b
 | .cond _ a b=>Yp (xP S a) (xP S b)
 | .block i c=>Xg (xP S c) i
 | .loop c=>⟨0,(xP S c).l⟩
 | .exit i=>⟨0,[(i,1)]⟩
 | .ret=>⟨0,[]⟩
 | .refuse _=>⟨0,[]⟩
 | .goto _=>⟨0,[]⟩
 | .skip=>⟨1,[]⟩
 | .scope _=>⟨1,[]⟩
 | .label _=>⟨1,[]⟩
 | .rangeFunc .. =>⟨1,[]⟩
def PF(d:Option Nat)(m:Nat):Nat:=match d with
 |none=>m
 |some d=>m|||Lq d
def Kx:List Oper->Nat->Nat
 | [],m=>m
 |o::r,m=>Kx r (PF o.dst m)
def vF:Code->Nat->Nat
 | .region _ ops _,m=>Kx ops.toList m
 | .seq a b,m=>vF b (vF a m)
 | .cond _ a b,m=>vF b (vF a m)
 | .block _ c,m=>vF c m
 | .loop c,m=>vF c m
 | .scope c,m=>vF c m
 | .skip,m=>m
 | .exit _,m=>m
 | .label _,m=>m
 | .goto _,m=>m
 | .ret,m=>m
 | .refuse _,m=>m
 | .rangeFunc ..,m=>m
structure Lv where
 m:Nat
 l:List Nat
def KG(b:Bool)(k:Nat)(s:Lv):Lv:=match b with
 |true=>⟨s.m - Lq k,k::s.l⟩
 |false=>s
def Gu:El->Lv->Lv
 | [],s=>s
 |(k,_)::r,s=>Gu r (KG (vj s.m k) k s)
def pO(x:Operand)(s:Lv):Lv:=match x with
 | .tmp t=>KG (vj s.m t) t s
 |_=>s
def zd:List Operand->Lv->Lv
 | [],s=>s
 |x::r,s=>zd r (pO x s)
def EX:List (Nat×Operand)->Lv->Lv
 | [],s=>s
 |(_,x)::r,s=>EX r (pO x s)
def Dh(x:Option Operand)(s:Lv):Lv:=match x with
 |some x=>pO x s
 |none=>s
def Pe(o:Op)(s:Lv):Lv:=match o with
 | .move x| .assign x| .box _ x| .load _ x| .nilCheck x| .unOp _ _ x| .convert _ _ x| .sliceToArrayPointer _ x| .makeInterface _ x
 | .makeChan _ x| .fieldAddr _ x _| .field _ x _| .range _ x| .next x _| .entry x| .typeAssert x _ _ _| .extract x _| .panic x| .recv _ x _=>pO x s
 | .pick c a b=>pO b (pO a (pO c s))
 | .build _ ps| .buildSlice _ _ ps=>EX ps.toList s
 | .store _ a v| .binOp _ _ a v _| .makeSlice _ a v| .indexAddr _ a v| .index _ a v| .lookup _ a v _| .mapEntry _ a v| .send a v=>pO v (pO a s)
 | .makeFunc _ a b=>zd b.toList (zd a.toList s)
 | .makeMap _ r=>Dh r s
 | .slice _ x a b c=>Dh c (Dh b (Dh a (pO x s)))
 | .mapUpdate _ m k v| .entryStore _ m k v| .insert _ m k v=>pO v (pO k (pO m s))
 | .call c=>zd c.args.toList (match c.callee with
  | .value f=>pO f s
  |_=>s)
 |_=>s
def Ky:List Oper->Lv->Lv
 | [],s=>s
 |o::r,s=>Ky r (Pe o.op s)
def uE:Code->Lv->Lv
 | .region _ ops _,s=>Ky ops.toList s
 | .seq a b,s=>uE b (uE a s)
 | .cond c a b,s=>uE b (uE a (pO c s))
 | .block _ c,s=>uE c s
 | .loop c,s=>uE c s
 | .scope c,s=>uE c s
 | .rangeFunc g _ a b,s=>uE b (uE a (pO g s))
 | .skip,s=>s
 | .exit _,s=>s
 | .label _,s=>s
 | .goto _,s=>s
 | .ret,s=>s
 | .refuse _,s=>s
inductive It where
 |c (c:Code)
 |b (i:Nat)
 |e (k:El->Om->WP)
 |k (a:WP) (b:Code->WP)
 |a (i:Nat) (c:Code) (a:WP) (b:Code->WP)
inductive Md where
 |l
 |r (i:Nat)
 |a
inductive Job where
 |s
 |r
 |x (i:Nat)
 |xb (b:Bool) (i:Nat)
 |xv (i:Nat)
 |c (c:Code)
 |j (b:Bool) (a c:Code)
 |j1 (s:Lv) (a c:Code)
 |j2 (b:Bool) (s:Lv) (a c:Code)
 |jl (L:List Nat) (a c:Code)
 |i (s:Sy) (a c:Code)
 |lp (rf:Bool) (L:List Nat) (c:Code)
 |l (ops r:List Oper)
 |d (R:Rg) (dn:Nat) (pd:Pd)
 |f (e:Option NN) (R:Rg) (dn:Nat) (pd:Pd)
 |e (es:List NN) (R:Rg) (dn:Nat) (pd:Pd)
 |g (m:Md) (g:Gd) (o:Oper) (nx:Job)
 |o (a:Ac) (i:Nat) (d:Option Nat) (nx:Job)
 |v (pd:Pd) (nx:Job)
 |re (rs:List ResultVar) (vs:LV_)
 |rb (b:Bool) (a:Vt_) (t:TypeId) (rs:List ResultVar) (vs:LV_)
def vd:WP:=λ_=>False
def V6(P:Program)(f:FuncId)(a:LV_)(k:Value->WP):WP:=λw=>rnx P f a w k
class Hd(α:Type) where
 v:α
def Ua{α:Type} [h:Hd α]:α:=h.v
abbrev Z8(S:Type):=S->World->(S->World->Prop)->Prop
abbrev Ya(S:Type):=S->World->Prop
abbrev WM:=Nat->List Value->World->(World->Prop)->(Code->World->Prop)->Prop
abbrev YJ:=List Nat->Option Code->World->Prop
def lV{b:Z8 S}{s:S}{k:S->World->Prop}(h:b s w k): @Ua (Z8 S) ⟨b⟩ s w k:=h
def kR{b:Ya S}{s:S}(h:b s w): @Ua (Ya S) ⟨b⟩ s w:=h
def ouR{b:WM}{i:Nat}{x:LV_}{n:World->Prop}{j:Code->World->Prop}(h:b i x w n j): @Ua WM ⟨b⟩ i x w n j:=h
def OT{b:YJ}{m:List Nat}{p:Option Code}(h:b m p w): @Ua YJ ⟨b⟩ m p w:=h
def KD{S:Type}(b:Z8 S)(s:S)(w:Wt_):Prop:=oJ b s w
def LY{S:Type}(A:(Ya S)->Prop)(B:Ya S):Prop:=cT A B
def Ws(P:Program)(ro:Option Nat)(g:Vt_)(w:Wt_)(n:Nat)(r:WM)(a:YJ):Prop:=FO P ro g w n r a
def QX{b:Z8 S}{s:S}:KD b s w=oJ (@Ua (Z8 S) ⟨b⟩) s w:=rfl
def Sz{A:(Ya S)->Prop}{B:Ya S}:LY A B=cT A (@Ua (Ya S) ⟨B⟩):=rfl
def XY{P:Program}{ro:Option Nat}{g:Vt_}{n:Nat}{r:WM}{a:YJ}:Ws P ro g w n r a=FO P ro g w n (@Ua WM ⟨r⟩) (@Ua YJ ⟨a⟩):=rfl
def V7{P:Program}{ro:Option Nat}{g:Vt_}{n:Nat}{r:WM}{a:YJ}(h:FO P ro g w n r a):FO P ro g w n (@Ua WM ⟨r⟩) a:=h
def Xz(N R:WP)(X:Nat->WP)(p:Option Code):WP:=jR N R X p
section
variable{P:Program}{s:Sem Value}{u:Sem Unit}{n:Sem Next}{k:Value->WP}{c:WP}{w:Wt_}{f:FuncId}{g:Vt_}{a:Array Value}{xs:LV_}{S:Type}{A:(S->WP)->WP}{B:S->WP}{i:Nat}{ds:List Nat}{N R:WP}{X:Nat->WP}{p:Option Code}{ro:Option Nat}{m:Nat}{rnd:Nat->List Value->WP->(Code->WP)->WP}{q:List Nat->Option Code->WP}{body:S->(S->WP)->WP}{st:S}
def ZL:Vw P s k w=rv P s w λv w=>k v w:=rfl
def ab6:Xw P s k w=rx P s w λv w=>k v w:=rfl
def ae4:Nw P n k w=rn P n w λv w=>k v w:=rfl
def aa2:Uw P u c w=ru P u w λw=>c w:=rfl
def ac3:Yw P u c w=yS P u w λw=>c w:=rfl
def ZP:Cw P f a k w=Ca P f a w λv w=>k v w:=rfl
def ae3:V6 P f xs k w=rnx P f xs w λv w=>k v w:=rfl
def YV:Fw P g xs k w=lA P g xs w λv w=>k v w:=rfl
def Y4:Jw A B w=LY (λJ=>A J w) (λs w=>B s w):=rfl
def ZK:Gw i c w=qt i w λw=>c w:=rfl
def ad8:Tw ds c w=Ap ds w λw=>c w:=rfl
def ac5:Xz N R X p w=jR (λw=>N w) (λw=>R w) (λi w=>X i w) p w:=rfl
def YZ:Rw P ro g m rnd q w=Ws P ro g w m (λl x w b e=>rnd l x b e w) (λd p w=>q d p w):=rfl
def af4:Lw body st w=KD (λs w k=>body s k w) st w:=rfl
end
structure aj0 where
 P:Program
 B:Nat
 S:Nat
 N:Nat
 rs:List ResultVar
 K:Value->WP
def dE(c:aj0):Nat->Option Nat->Job->List It->El->Om->WP
 |0,_,_,_,_,_=>vd
 |n+1,ro,.s,[],l,none=>dE c n ro (.re c.rs []) [] l none
 |n+1,ro,.s,[],l,some d=>Tw d (dE c n ro (.re c.rs []) [] l none)
 |n+1,ro,.s,.c x::st,l,ds=>dE c n ro (.c x) st l ds
 |n+1,ro,.s,.b _::st,l,ds=>dE c n ro .s st l ds
 |n+1,ro,.s,.e k::_,l,ds=>k l ds
 |n+1,ro,.s,.k a _::_,l,ds=>a
 |n+1,ro,.s,.a i x p q::_,l,ds=>Gw i (dE c n ro (.c x) [.k p q] l none)
 |n+1,ro,.r,[],l,ds=>dE c n ro .s [] l ds
 |n+1,ro,.r,.c _::st,l,ds=>dE c n ro .r st l ds
 |n+1,ro,.r,.b _::st,l,ds=>dE c n ro .r st l ds
 |n+1,ro,.r,.e _::st,l,ds=>dE c n ro .r st l ds
 |n+1,ro,.r,.k _ b::_,l,ds=>b .ret
 |n+1,ro,.r,.a _ _ _ _::_,l,ds=>vd
 |n+1,ro,.x i,[],l,ds=>vd
 |n+1,ro,.x i,.c _::st,l,ds=>dE c n ro (.x i) st l ds
 |n+1,ro,.x i,.b j::st,l,ds=>dE c n ro (.xb (i==j) i) st l ds
 |n+1,ro,.x i,.e _::st,l,ds=>dE c n ro (.x i) st l ds
 |n+1,ro,.x i,.k _ b::_,l,ds=>b (.exit i)
 |n+1,ro,.x i,.a _ _ _ _::_,l,ds=>vd
 |n+1,ro,.xb true _,st,l,ds=>dE c n ro .s st l ds
 |n+1,ro,.xb false i,st,l,ds=>dE c n ro (.x i) st l ds
 |n+1,ro,.xv i,[],l,ds=>vd
 |n+1,ro,.xv i,.c _::st,l,ds=>dE c n ro (.xv i) st l ds
 |n+1,ro,.xv i,.b j::st,l,ds=>Hw (Nat.beq i j) (dE c n ro .s st l ds) (dE c n ro (.xv i) st l ds)
 |n+1,ro,.xv i,.e _::st,l,ds=>dE c n ro (.xv i) st l ds
 |n+1,ro,.xv i,.k _ b::_,l,ds=>b (.exit i)
 |n+1,ro,.xv i,.a _ _ _ _::_,l,ds=>vd
 |n+1,ro,.c .skip,st,l,ds=>dE c n ro .s st l ds
 |n+1,ro,.c (.region _ ops false),st,l,ds=>dE c n ro (.l ops.toList ops.toList) st l ds
 |n+1,ro,.c (.region _ ops true),st,l,ds=>Dw (dE c n ro (.d ⟨ops.toList,xh c.S ops.toList 1 []⟩ 0 []) st l ds)
 |n+1,ro,.c (.seq a b),st,l,ds=>dE c n ro (.j (Lr (xP c.S a).n a b) a b) st l ds
 |n+1,ro,.j false a b,st,l,ds=>dE c n ro (.c a) (.c b::st) l ds
 |n+1,ro,.j true a b,st,l,ds=>dE c n ro (.j1 (Gu l ⟨vF a 0,[]⟩) a b) st l ds
 |n+1,ro,.j1 s a b,st,l,ds=>dE c n ro (.j2 (s.m==0) s a b) st l ds
 |n+1,ro,.j2 true s a b,st,l,ds=>dE c n ro (.jl s.l a b) st l ds
 |n+1,ro,.j2 false s a b,st,l,ds=>dE c n ro (.jl (uE b s).l a b) st l ds
 |n+1,ro,.jl L a b,st,l,ds=>Jw (S:=EZ L) (λJ=>dE c n ro (.c a) (.e (λl _=>J (zT l L))::st) l ds) (λs=>Zw (dE c n ro (.c b) st (DC L s l) ds))
 |n+1,ro,.c (.cond x a b),st,l,ds=>dE c n ro (.i (yF l x) a b) st l ds
 |n+1,ro,.i (.b true) a _,st,l,ds=>dE c n ro (.c a) st l ds
 |n+1,ro,.i (.b false) _ b,st,l,ds=>dE c n ro (.c b) st l ds
 |n+1,ro,.i (.t v) a b,st,l,ds=>Iw v (dE c n ro (.c a) st l ds) (dE c n ro (.c b) st l ds)
 |n+1,ro,.i .u _ _,st,l,ds=>vd
 |n+1,ro,.c (.block i x),st,l,ds=>dE c n ro (.c x) (.b i::st) l ds
 |n+1,ro,.c (.loop x),st,l,ds=>dE c n ro (.lp (vx x) (Gu l ⟨vF x 0,[]⟩).l x) st l ds
 |n+1,ro,.lp false L x,st,l,ds=>Lw (S:=EZ L) (λs k=>Zw (dE c n ro (.c x) (.e (λl _=>k (zT l L))::st) (DC L s l) ds)) (zT l L)
 |n+1,ro,.lp true L x,st,l,ds=>Lw (S:=EZ L×List Nat) (λs k=>Zw (dE c n ro (.c x) (.e (λl d=>k (zT l L,Jg d))::st) (DC L s.1 l) (some s.2))) (zT l L,Jg ds)
 |n+1,ro,.c (.rangeFunc gv ps a b),st,l,ds=>
  Rw c.P ro (gj l gv) (Tx ps.toList) (λi x p q=>dE c n (some i) (.c a) [.a i b p q] (KK ps.toList 0 x l) none)
   (λmk pd=>Xz (dE c n ro .s st l (some (mk++Jg ds))) (dE c n ro .r st l (some (mk++Jg ds))) (λi=>dE c n ro (.xv i) st l (some (mk++Jg ds))) pd)
 |n+1,ro,.c (.exit i),st,l,ds=>dE c n ro (.x i) st l ds
 |n+1,ro,.c .ret,st,l,ds=>dE c n ro .r st l ds
 |n+1,ro,.c (.label _),st,l,ds=>dE c n ro .s st l ds
 |n+1,ro,.c (.scope x),st,l,ds=>dE c n ro (.c x) st l ds
 |n+1,ro,.c (.goto _),st,l,ds=>vd
 |n+1,ro,.c (.refuse _),st,l,ds=>vd
 |n+1,ro,.l _ [],st,l,ds=>dE c n ro .s st l ds
 |n+1,ro,.l ops (o::r),st,l,ds=>dE c n ro (.g .l (Oc ops l o.guard) o (.l ops r)) st l ds
 |n+1,ro,.g _ .n o nx,st,l,ds=>dE c n ro nx st (pM o.dst .u l) ds
 |n+1,ro,.g m (.a v s true) o nx,st,l,ds=>Iw v (dE c n ro (.g m .y o nx) st ((s,.b true)::l) ds) (dE c n ro (.g m .n o nx) st ((s,.b false)::l) ds)
 |n+1,ro,.g m (.a v s false) o nx,st,l,ds=>Iw v (dE c n ro (.g m .n o nx) st ((s,.b true)::l) ds) (dE c n ro (.g m .y o nx) st ((s,.b false)::l) ds)
 |n+1,ro,.g .l .y o nx,st,l,ds=>dE c n ro (.o (T3 c.B c.S c.N l o) 0 o.dst nx) st l ds
 |n+1,ro,.g (.r i) .y o nx,st,l,ds=>dE c n ro (.o (WJ c.B c.S l o) i o.dst nx) st l ds
 |n+1,ro,.g .a .y o (.d R dn pd),st,l,ds=>dE c n ro (.o (T3 c.B c.S c.N l o) 0 o.dst (.v pd (.d R dn pd))) st l ds
 |n+1,ro,.o (.q s) _ d nx,st,l,ds=>dE c n ro nx st (pM d s l) ds
 |n+1,ro,.o (.pk v x y) _ d nx,st,l,ds=>Bw v λb=>dE c n ro nx st (pM d (.t (SP b x y)) l) ds
 |n+1,ro,.o (.nk v) _ d nx,st,l,ds=>Qw v λv=>dE c n ro nx st (pM d (.t v) l) ds
 |n+1,ro,.o (.v s) _ d nx,st,l,ds=>Vw c.P s λv=>dE c n ro nx st (pM d (.t v) l) ds
 |n+1,ro,.o (.x s) _ d nx,st,l,ds=>Xw c.P s λv=>dE c n ro nx st (pM d (.t v) l) ds
 |n+1,ro,.o (.n s) _ d nx,st,l,ds=>Nw c.P s λv=>dE c n ro nx st (pM d (.t v) l) ds
 |n+1,ro,.o (.c f a) _ d nx,st,l,ds=>Cw c.P f a.toArray λv=>dE c n ro nx st (pM d (.t v) l) ds
 |n+1,ro,.o (.rn f a) _ d nx,st,l,ds=>V6 c.P f a λv=>dE c n ro nx st (pM d (.t v) l) ds
 |n+1,ro,.o (.f g a) _ d nx,st,l,ds=>Fw c.P g a λv=>dE c n ro nx st (pM d (.t v) l) ds
 |n+1,ro,.o (.u s) _ d nx,st,l,ds=>Uw c.P s (dE c n ro nx st (pM d (.t undef) l) ds)
 |n+1,ro,.o (.y s) _ d nx,st,l,ds=>Yw c.P s (dE c n ro nx st (pM d (.t undef) l) ds)
 |n+1,ro,.o (.p s) _ d nx,st,l,ds=>Pw c.P s λv=>dE c n ro nx st (pM d (.t v) l) ds
 |n+1,ro,.o (.px s) _ d nx,st,l,ds=>PXw c.P s λv=>dE c n ro nx st (pM d (.t v) l) ds
 |n+1,ro,.o (.w s) i d (.d R dn pd),st,l,ds=>Ww c.P s λv=>dE c n ro (.d R dn ((i,s,v)::pd)) st (pM d (.t v) l) ds
 |n+1,ro,.o (.wx s) i d (.d R dn pd),st,l,ds=>Yc c.P s λv=>dE c n ro (.d R dn ((i,s,v)::pd)) st (pM d (.t v) l) ds
 |n+1,ro,.v [] nx,st,l,ds=>dE c n ro nx st l ds
 |n+1,ro,.v ((_,s,v)::r) nx,st,l,ds=>Ew c.P s v (dE c n ro (.v r nx) st l ds)
 |n+1,ro,.d R dn pd,st,l,ds=>dE c n ro (.f (Ld false none R.es dn) R dn pd) st l ds
 |n+1,ro,.f (some e) R dn pd,st,l,ds=>dE c n ro (.g (.r e.i) (Oc R.ops l e.o.guard) e.o (.d R (dn|||e.i) pd)) st l ds
 |n+1,ro,.f none R dn pd,st,l,ds=>dE c n ro (.e (K4 dn R.es) R dn pd) st l ds
 |n+1,ro,.e [] _ _ _,st,l,ds=>dE c n ro .s st l ds
 |n+1,ro,.e [e] R dn pd,st,l,ds=>dE c n ro (.g .a (Oc R.ops l e.o.guard) e.o (.d R (dn|||e.i) (Pr e.am pd))) st l ds
 |n+1,ro,.e (e::e' ::r) R dn pd,st,l,ds=>Aw (dE c n ro (.g .a (Oc R.ops l e.o.guard) e.o (.d R (dn|||e.i) (Pr e.am pd))) st l ds) (dE c n ro (.e (e' ::r) R dn pd) st l ds)
 |n+1,ro,.re [] vs,st,l,ds=>c.K (RY vs)
 |n+1,ro,.re (.tmp t::r) vs,st,l,ds=>dE c n ro (.re r (OF vs (zV false .u l t).v)) st l ds
 |n+1,ro,.re (.cell a t::r) vs,st,l,ds=>dE c n ro (.rb (vj c.B t) (zV false .u l a).v t r vs) st l ds
 |n+1,ro,.rb true a t r vs,st,l,ds=>Yc c.P (qE t a) λv=>dE c n ro (.re r (OF vs v)) st l ds
 |n+1,ro,.rb false a t r vs,st,l,ds=>Ww c.P (iL t a) λv=>dE c n ro (.re r (OF vs v)) st l ds
 |_,_,_,_,_,_=>vd
end Go.Vc
namespace Go.Proofs
open Go Go.Vc
def sN{f:FuncId}{fn:Func}{c:Code}{rs:List ResultVar}{xs:LV_}{L:List As}{K:Value->WP}{H:WP}(a:Tryz.prog.funcs[f]? =some fn)(g:Gs L H)
  (d:fn.body=some c:=by exact rfl)(b:fn.results=rs.toArray:=by exact rfl)
  (h:dE ⟨pQ,780437137578998057924726023706815346392291355056326472503586265656282906575705396088125373220878390705057303521779571044483880558217456403873792,23258839177462064731698047172789743042292416494722069412913746125091720897538415800766588902435989027179623079782544797699072901876023296,2644218831704220047948482867069845968386646895354151059412496192997585723836232780021561882989311081045811144364680764456963,rs,K⟩ 100000 none (.c c) [] (HV 0 xs) none=H:=by
   dsimp only[dE,Sy.v,Xp,zV,yF,gj,pS,zB,EY,Tf,pM,HV,zT,DC,KK,Jg,Tx,RY,vj,Lq,Og,NF,uS,BN,Mi,T3,R2,WJ,LO,SC,SN,SG,Oc,WQ,yk,Hz,xh,Ld,Jy,K4,P5,Pr,RJ,UA,vx,Fo,Fm,JW,Kc,LX,Q9,Xj,Sf,DE,HA,Ih,KH,Lr,Qc,Xh,Yp,Xg,xP,PF,Kx,vF,KG,Gu,pO,zd,EX,Dh,Pe,Ky,uE,EZ,FM,Nat.reduceMul,Nat.reduceAdd,Nat.reducePow,Nat.reduceAnd,Nat.reduceOr,Nat.reduceShiftRight,Nat.reduceMod,Nat.reduceDiv,Nat.reduceBEq,Nat.reduceSub,OF,List.cons_append,List.nil_append,Xz])
  (ok:okF pQ fn xs.length=true:=by kernel_rfl)(e:∀w,Q3 pQ fn xs w K=H w:=by intro w;kernel_rfl):Gs L (Cw pQ f xs.toArray K):=
 Gs.ca (λw x=>Ee Tryz.noNum a ok (by rw[e];exact x)) g
def cN{f:FuncId}{fn:Func}{c:Code}{rs:List ResultVar}{xs:LV_}{w:Wt_}{K:aZ}{a H:Prop}(b:Tryz.prog.funcs[f]? =some fn)(g:H)
  (i:fn.body=some c:=by exact rfl)(h:fn.results=rs.toArray:=by exact rfl)
  (j:dE ⟨pQ,780437137578998057924726023706815346392291355056326472503586265656282906575705396088125373220878390705057303521779571044483880558217456403873792,23258839177462064731698047172789743042292416494722069412913746125091720897538415800766588902435989027179623079782544797699072901876023296,2644218831704220047948482867069845968386646895354151059412496192997585723836232780021561882989311081045811144364680764456963,rs,K⟩ 100000 none (.c c) [] (HV 0 xs) none w=a:=by
   dsimp only[dE,Sy.v,Xp,zV,yF,gj,pS,zB,EY,Tf,pM,HV,zT,DC,KK,Jg,Tx,RY,vj,Lq,Og,NF,uS,BN,Mi,T3,R2,WJ,LO,SC,SN,SG,Oc,WQ,yk,Hz,xh,Ld,Jy,K4,P5,Pr,RJ,UA,vx,Fo,Fm,JW,Kc,LX,Q9,Xj,Sf,DE,HA,Ih,KH,Lr,Qc,Xh,Yp,Xg,xP,PF,Kx,vF,KG,Gu,pO,zd,EX,Dh,Pe,Ky,uE,EZ,FM,Nat.reduceMul,Nat.reduceAdd,Nat.reducePow,Nat.reduceAnd,Nat.reduceOr,Nat.reduceShiftRight,Nat.reduceMod,Nat.reduceDiv,Nat.reduceBEq,Nat.reduceSub,OF,List.cons_append,List.nil_append,ZL,aa2,ab6,ac3,ae4,Pw,Ww,PXw,Yc,Ew,Dw,Aw,Iw,Bw,Qw,ZP,YV,Y4,Zw,Hw,ZK,ad8,YZ,af4,ae3,ac5,vd])
  (d:a=H:=by first|dsimp only[QX,Sz,XY]|exact rfl)
  (ok:okF pQ fn xs.length=true:=by kernel_rfl)(e:Q3 pQ fn xs w K=H:=by kernel_rfl):Ca pQ f xs.toArray w K:=
 Ee Tryz.noNum b ok (by rw[e];exact g)
end Go.Proofs
namespace Go.Proofs
open Go Go.Vc
section
variable{P:Program}{s:Sem Value}{u:Sem Unit}{n:Sem Next}{w w' :Wt_}{K:aZ}{A B:World->Prop}{C D:Prop}{L:World->Prop}{M:Value->Prop}{v:Vt_}{p q r:Prop}
def dI(a:K v w')(h:s.run P w=.ok v w' :=by simp[-Int.natCast_add,go_sem]<;>first|exact⟨rfl,rfl⟩|exact rfl):rv P s w K:=bo h a
def Ka(v:Vt_)(a:K v w')(h:s.run P w=.ok v w' :=by simp[go_sem]<;>first|exact⟨rfl,rfl⟩|exact rfl):rv P s w K:=bo h a
def lh(a:A w')(h:s.run P w=.ok (.bool true) w' :=by simp[go_sem]<;>first|exact⟨rfl,rfl⟩|exact rfl):rv P s w λv w=>sx v (A w) (B w):=bo h (by rw[kJ];exact a)
def eU(a:B w')(h:s.run P w=.ok (.bool false) w' :=by simp[go_sem]<;>first|exact⟨rfl,rfl⟩|exact rfl):rv P s w λv w=>sx v (A w) (B w):=bo h (by rw[jO];exact a)
def IF(a:K v w')(h:n.run P w=.ok (.value v) w' :=by simp[-Int.natCast_add,go_sem]<;>first|exact⟨rfl,rfl⟩|exact rfl):rn P n w K:=uz h a
def sB(a:M v)(h:∀w,s.run P w=.ok v w:=by intro _;simp[-Int.natCast_add,go_sem]<;>first|exact⟨rfl,rfl⟩|exact rfl):jC P s M:=cx h a
def NT(v:Vt_)(a:M v)(h:∀w,s.run P w=.ok v w:=by intro _;simp[go_sem]<;>first|exact⟨rfl,rfl⟩|exact rfl):jC P s M:=cx h a
def qW0(a:M v)(h:s.run P w=.ok v w:=by simp[-Int.natCast_add,go_sem]<;>first|exact⟨rfl,rfl⟩|exact rfl):nV P s w M:=cK h a
def dN(f:p)(a:K v w')(h:p->s.run P w=.ok v w' :=by intro f;simp[-Int.natCast_add,go_sem,f]<;>first|exact⟨rfl,rfl⟩|exact rfl):rv P s w K:=bo (h f) a
def wL(v:Vt_)(f:p)(a:K v w')(h:p->s.run P w=.ok v w' :=by intro f;simp[go_sem,f]<;>first|exact⟨rfl,rfl⟩|exact rfl):rv P s w K:=bo (h f) a
def dY(f:p)(a:A w')(h:p->s.run P w=.ok (.bool true) w' :=by intro f;simp[go_sem,f]<;>first|exact⟨rfl,rfl⟩|exact rfl):rv P s w λv w=>sx v (A w) (B w):=bo (h f) (by rw[kJ];exact a)
def fF(f:p)(a:B w')(h:p->s.run P w=.ok (.bool false) w' :=by intro f;simp[go_sem,f]<;>first|exact⟨rfl,rfl⟩|exact rfl):rv P s w λv w=>sx v (A w) (B w):=bo (h f) (by rw[jO];exact a)
def S6(f:p)(a:L w')(h:p->u.run P w=.ok () w' :=by intro f;simp[-Int.natCast_add,go_sem,f]<;>first|exact⟨rfl,rfl⟩|exact rfl):ru P u w L:=iE (h f) a
def qN1(f:p)(a:K v w')(h:p->n.run P w=.ok (.value v) w' :=by intro f;simp[-Int.natCast_add,go_sem,f]<;>first|exact⟨rfl,rfl⟩|exact rfl):rn P n w K:=uz (h f) a
def qP1(f:p)(a:M v)(h:p->∀w,s.run P w=.ok v w:=by intro f _;simp[-Int.natCast_add,go_sem,f]<;>first|exact⟨rfl,rfl⟩|exact rfl):jC P s M:=cx (h f) a
def Y0(v:Vt_)(f:p)(a:M v)(h:p->∀w,s.run P w=.ok v w:=by intro f _;simp[go_sem,f]<;>first|exact⟨rfl,rfl⟩|exact rfl):jC P s M:=cx (h f) a
def JC(f:p)(a:C)(h:p->∀w,s.run P w=.ok (.bool true) w:=by intro f _;simp[go_sem,f]<;>first|exact⟨rfl,rfl⟩|exact rfl):jC P s λv=>sx v C D:=cx (h f) (by rw[kJ];exact a)
def Kf(f:p)(a:D)(h:p->∀w,s.run P w=.ok (.bool false) w:=by intro f _;simp[go_sem,f]<;>first|exact⟨rfl,rfl⟩|exact rfl):jC P s λv=>sx v C D:=cx (h f) (by rw[jO];exact a)
def AV(f:p)(a:M v)(h:p->s.run P w=.ok v w:=by intro f;simp[-Int.natCast_add,go_sem,f]<;>first|exact⟨rfl,rfl⟩|exact rfl):nV P s w M:=cK (h f) a
def UK(v:Vt_)(f:p)(a:M v)(h:p->s.run P w=.ok v w:=by intro f;simp[go_sem,f]<;>first|exact⟨rfl,rfl⟩|exact rfl):nV P s w M:=cK (h f) a
def nS(f:p)(g:q)(a:K v w')(h:p->q->s.run P w=.ok v w' :=by intro f g;simp[-Int.natCast_add,go_sem,f,g]<;>first|exact⟨rfl,rfl⟩|exact rfl):rv P s w K:=bo (h f g) a
def NR(v:Vt_)(f:p)(g:q)(a:K v w')(h:p->q->s.run P w=.ok v w' :=by intro f g;simp[go_sem,f,g]<;>first|exact⟨rfl,rfl⟩|exact rfl):rv P s w K:=bo (h f g) a
def qU2(f:p)(g:q)(a:L w')(h:p->q->u.run P w=.ok () w' :=by intro f g;simp[-Int.natCast_add,go_sem,f,g]<;>first|exact⟨rfl,rfl⟩|exact rfl):ru P u w L:=iE (h f g) a
def qW2(f:p)(g:q)(a:M v)(h:p->q->s.run P w=.ok v w:=by intro f g;simp[-Int.natCast_add,go_sem,f,g]<;>first|exact⟨rfl,rfl⟩|exact rfl):nV P s w M:=cK (h f g) a
def YX(v:Vt_)(f:p)(g:q)(a:M v)(h:p->q->s.run P w=.ok v w:=by intro f g;simp[go_sem,f,g]<;>first|exact⟨rfl,rfl⟩|exact rfl):nV P s w M:=cK (h f g) a
def qS3(f:p)(g:q)(i:r)(a:K v w')(h:p->q->r->s.run P w=.ok v w' :=by intro f g i;simp[-Int.natCast_add,go_sem,f,g,i]<;>first|exact⟨rfl,rfl⟩|exact rfl):rv P s w K:=bo (h f g i) a
def XE(v:Vt_)(f:p)(g:q)(i:r)(a:K v w')(h:p->q->r->s.run P w=.ok v w' :=by intro f g i;simp[go_sem,f,g,i]<;>first|exact⟨rfl,rfl⟩|exact rfl):rv P s w K:=bo (h f g i) a
def qSi(n:Int)(a:K (gI n) w)(h:s.run P w=.ok (gI n) w:=by simp[go_sem];rw[ew qZ qZ]<;>omega):rv P s w K:=bo h a
def VE(i:Nat)(a:K (gI ((i+1:Nat):Int)) w)(h:s.run P w=.ok (gI ((i+1:Nat):Int)) w:=by simp[go_sem];rw[ew qZ qZ]<;>omega):rv P s w K:=bo h a
def mR{n:Int}(a: -9223372036854775808<=n:=by omega)(h1:n<9223372036854775808:=by omega):IntKind.i64.wrap n=n:=ew a h1
def RE{n:Int}(a:0<=n:=by omega)(h1:n<18446744073709551616:=by omega):IntKind.u64.wrap n=n:=ly a h1
end
end Go.Proofs
namespace Go.Proofs
open Go Go.Vc
def So(K:aZ)(s116:Value×Value×Unit)(K118:Value×Value×Unit->World->Prop)(s128:Value×Unit)(w129:Wt_):Prop:=
 ∀_:Nat->Value,
 sx s128.1
 (K (gI 6) w129)
 (rv pQ (io .add 3 true s116.2.1 (gI 1)) w129 λv147 w148=>
 K118 (s116.1,v147,()) w148)
def Qs(v72:Vt_)(v0:Vt_)(K:aZ)(s75:Unit)(w76:Wt_):Prop:=
 ∀_:Nat->Value,
 rv pQ (iL 130 v72) w76 λv95 w96=>
 ru pQ (iS 130 v0 v95) w96 λw97=>
 nV pQ (iL 130 v0) w97 λv98=>
 K (.tuple #[v98,(gI 0)]) w97
def SD(s51:Value×Value×Unit)(v24:Vt_)(J50:Value×Value×Unit->World->Prop)(K53:Value×Value×Unit->World->Prop)(s54:Value×Unit)(w55:Wt_):Prop:=
 ∀_:Nat->Value,
 sx s54.1
 (rv pQ (io .sub 37 true s51.1 (gQ 1)) w55 λv67 w68=>
 rv pQ (io .add 37 false s51.2.1 v24) w68 λv69 w70=>
 rv pQ (io .geq 37 true v69 (gQ 4294967296)) w70 λv71 w72=>
 sx v71
 (J50 (v67,v69,()) w72)
 (K53 (v67,v69,()) w72))
 (J50 (s51.1,s51.2.1,()) w55)
def RF(s90:Value×Value×Unit)(v24:Vt_)(J89:Value×Value×Unit->World->Prop)(K92:Value×Value×Unit->World->Prop)(s93:Value×Unit)(w94:Wt_):Prop:=
 ∀_:Nat->Value,
 sx s93.1
 (rv pQ (io .sub 37 true s90.1 (gQ 1)) w94 λv106 w107=>
 rv pQ (io .add 37 false s90.2.1 v24) w107 λv108 w109=>
 rv pQ (io .geq 37 true v108 (gQ 4294967296)) w109 λv110 w111=>
 sx v110
 (J89 (v106,v108,()) w111)
 (K92 (v106,v108,()) w111))
 (J89 (s90.1,s90.2.1,()) w94)
def Qn(v26:Vt_)(v38:Vt_)(v24:Vt_)(J50:Value×Value×Unit->World->Prop)(s51:Value×Value×Unit)(w52:Wt_)(K53:Value×Value×Unit->World->Prop):Prop:=
 ∀_:Nat->Value,
 cT (S:=Value×Unit) (λJ56=>
 rv pQ (io .geq 37 true s51.1 (gQ 4294967296)) w52 λv57 w58=>
 sx v57
 (J56 ((.bool true),()) w58)
 (rv pQ (io .mul 37 false s51.1 v26) w58 λv59 w60=>
 rv pQ (io .mul 37 true (gQ 4294967296) s51.2.1) w60 λv61 w62=>
 rv pQ (io .add 37 false v61 v38) w62 λv63 w64=>
 rv pQ (io .gtr 37 false v59 v63) w64 λv65 w66=>
 J56 (v65,()) w66))
 (SD s51 v24 J50 K53)
def Qy(v26:Vt_)(v40:Vt_)(v24:Vt_)(J89:Value×Value×Unit->World->Prop)(s90:Value×Value×Unit)(w91:Wt_)(K92:Value×Value×Unit->World->Prop):Prop:=
 ∀_:Nat->Value,
 cT (S:=Value×Unit) (λJ95=>
 rv pQ (io .geq 37 true s90.1 (gQ 4294967296)) w91 λv96 w97=>
 sx v96
 (J95 ((.bool true),()) w97)
 (rv pQ (io .mul 37 false s90.1 v26) w97 λv98 w99=>
 rv pQ (io .mul 37 true (gQ 4294967296) s90.2.1) w99 λv100 w101=>
 rv pQ (io .add 37 false v100 v40) w101 λv102 w103=>
 rv pQ (io .gtr 37 false v98 v102) w103 λv104 w105=>
 J95 (v104,()) w105))
 (RF s90 v24 J89 K92)
def QO(s4:Value×Value×Unit)(a0:Vt_)(K:aZ)(s26:Value×Unit)(w27:Wt_)(K28:Value×Unit->World->Prop):Prop:=
 ∀_:Nat->Value,
 rv pQ (io .sub 3 true s4.1 (gI 1)) w27 λv29 w30=>
 rv pQ (io .lss 3 false s26.1 v29) w30 λv31 w32=>
 sx v31
 (jC pQ (io .add 3 true s26.1 (gI 1)) λv33=>
 jC pQ (io .add 3 true s26.1 (gI 1)) λv34=>
 jC pQ (iX 23 a0 v34) λv35=>
 nV pQ (iL 3 v35) w32.drew λv36=>
 jC pQ (iX 23 a0 s26.1) λv37=>
 nV pQ (iL 3 v37) w32.drew λv38=>
 jC pQ (iX 23 a0 s26.1) λv39=>
 ru pQ (iS 3 v39 v36) w32.drew λw40=>
 jC pQ (iX 23 a0 v33) λv41=>
 ru pQ (iS 3 v41 v38) w40 λw42=>
 rv pQ (io .add 3 true s26.1 (gI 1)) w42 λv43 w44=>
 K28 (v43,()) w44)
 (K (.tuple #[]) w32)
def SO(s49:Value×Value×Unit)(a0:Vt_)(K:aZ)(s72:Value×Unit)(w73:Wt_)(K74:Value×Unit->World->Prop):Prop:=
 ∀_:Nat->Value,
 rv pQ (io .gtr 3 false s72.1 s49.1) w73 λv75 w76=>
 sx v75
 (jC pQ (io .sub 3 true s72.1 (gI 1)) λv77=>
 jC pQ (io .sub 3 true s72.1 (gI 1)) λv78=>
 jC pQ (iX 23 a0 v78) λv79=>
 nV pQ (iL 3 v79) w76.drew λv80=>
 jC pQ (iX 23 a0 s72.1) λv81=>
 nV pQ (iL 3 v81) w76.drew λv82=>
 jC pQ (iX 23 a0 s72.1) λv83=>
 ru pQ (iS 3 v83 v80) w76.drew λw84=>
 jC pQ (iX 23 a0 v77) λv85=>
 ru pQ (iS 3 v85 v82) w84 λw86=>
 rv pQ (io .sub 3 true s72.1 (gI 1)) w86 λv87 w88=>
 K74 (v87,()) w88)
 (K (.tuple #[]) w76)
def Sa(s4:Value×Value×Unit)(a0:Vt_)(K:aZ)(s26:Value×Unit)(w27:Wt_)(K28:Value×Unit->World->Prop):Prop:=
 ∀_:Nat->Value,
 rv pQ (io .sub 3 true s4.1 (gI 1)) w27 λv29 w30=>
 rv pQ (io .lss 3 false s26.1 v29) w30 λv31 w32=>
 sx v31
 (jC pQ (io .add 3 true s26.1 (gI 1)) λv33=>
 jC pQ (io .add 3 true s26.1 (gI 1)) λv34=>
 jC pQ (iX 146 a0 v34) λv35=>
 nV pQ (iL 130 v35) w32.drew λv36=>
 jC pQ (iX 146 a0 s26.1) λv37=>
 nV pQ (iL 130 v37) w32.drew λv38=>
 jC pQ (iX 146 a0 s26.1) λv39=>
 ru pQ (iS 130 v39 v36) w32.drew λw40=>
 jC pQ (iX 146 a0 v33) λv41=>
 ru pQ (iS 130 v41 v38) w40 λw42=>
 rv pQ (io .add 3 true s26.1 (gI 1)) w42 λv43 w44=>
 K28 (v43,()) w44)
 (K (.tuple #[]) w32)
def PJ(s49:Value×Value×Unit)(a0:Vt_)(K:aZ)(s72:Value×Unit)(w73:Wt_)(K74:Value×Unit->World->Prop):Prop:=
 ∀_:Nat->Value,
 rv pQ (io .gtr 3 false s72.1 s49.1) w73 λv75 w76=>
 sx v75
 (jC pQ (io .sub 3 true s72.1 (gI 1)) λv77=>
 jC pQ (io .sub 3 true s72.1 (gI 1)) λv78=>
 jC pQ (iX 146 a0 v78) λv79=>
 nV pQ (iL 130 v79) w76.drew λv80=>
 jC pQ (iX 146 a0 s72.1) λv81=>
 nV pQ (iL 130 v81) w76.drew λv82=>
 jC pQ (iX 146 a0 s72.1) λv83=>
 ru pQ (iS 130 v83 v80) w76.drew λw84=>
 jC pQ (iX 146 a0 v77) λv85=>
 ru pQ (iS 130 v85 v82) w84 λw86=>
 rv pQ (io .sub 3 true s72.1 (gI 1)) w86 λv87 w88=>
 K74 (v87,()) w88)
 (K (.tuple #[]) w76)
def SR(v19:Vt_)(v55:Vt_)(J59:Unit->World->Prop)(s74:Value×Unit)(w75:Wt_):Prop:=
 ∀_:Nat->Value,
 sx s74.1
 (rv pQ (iF 412 v19 0) w75 λv99 w100=>
 rv pQ (iF 48 v99 7) w100 λv101 w102=>
 rv pQ (iL 2 v101) w102 λv103 w104=>
 pJ v55 λv105=>rv pQ (iF 477 v105 3) w104 λv106 w107=>
 ru pQ (iS 2 v106 v103) w107 λw108=>
 J59 (()) w108)
 (J59 (()) w75)
def SE(v55:Vt_)(v19:Vt_)(s10:Value×Value×Value×Unit)(K12:Value×Value×Value×Unit->World->Prop)(s57:Unit)(w58:Wt_):Prop:=
 ∀_:Nat->Value,
 pJ v55 λv109=>jC pQ (iF 477 v109 1) λv110=>
 nV pQ (iL 2 v110) w58.drew λv111=>
 jC pQ (iF 412 v19 1) λv112=>
 nV pQ (iL 2 v112) w58.drew λv113=>
 nV pQ (Builtin.max_ #[2,2] 2 #[v113,(gI 0)]) w58.drew λv114=>
 jC pQ (io .add 2 false v111 v114) λv115=>
 pJ v55 λv116=>jC pQ (iF 477 v116 1) λv117=>
 ru pQ (iS 2 v117 v115) w58.drew λw118=>
 pJ v55 λv119=>jC pQ (iF 477 v119 2) λv120=>
 nV pQ (iL 2 v120) w118.drew λv121=>
 jC pQ (iF 412 v19 1) λv122=>
 nV pQ (iL 2 v122) w118.drew λv123=>
 jC pQ (Op.unary .neg v123) λv124=>
 nV pQ (Builtin.max_ #[2,2] 2 #[v124,(gI 0)]) w118.drew λv125=>
 jC pQ (io .add 2 false v121 v125) λv126=>
 pJ v55 λv127=>jC pQ (iF 477 v127 2) λv128=>
 ru pQ (iS 2 v128 v126) w118.drew λw129=>
 rv pQ (io .add 3 true s10.2.2.1 (gI 1)) w129 λv130 w131=>
 K12 (s10.1,s10.2.1,v130,()) w131
def SK(K:aZ)(v19:Vt_)(s10:Value×Value×Value×Unit)(K12:Value×Value×Value×Unit->World->Prop)(v4:Vt_)(s22:Value×Unit)(w23:Wt_):Prop:=
 ∀_:Nat->Value,
 sx s22.1
 (K (.tuple #[(gI 0),(gI 2)]) w23)
 (rv pQ (iF 412 v19 1) w23 λv41 w42=>
 rv pQ (iL 2 v41) w42 λv43 w44=>
 rv pQ (io .eql 2 true v43 (gI 0)) w44 λv45 w46=>
 sx v45
 (rv pQ (io .add 3 true s10.2.2.1 (gI 1)) w46 λv47 w48=>
 K12 (s10.1,s10.2.1,v47,()) w48)
 (rv pQ (iF 412 v19 0) w46 λv49 w50=>
 rv pQ (iF 48 v49 1) w50 λv51 w52=>
 rv pQ (iL 5 v51) w52 λv53 w54=>
 rv pQ (iX 478 v4 v53) w54 λv55 w56=>
 cT (S:=Unit) (λJ59=>
 pJ v55 λv60=>jC pQ (iF 477 v60 0) λv61=>
 nV pQ (iL 2 v61) w56.drew λv62=>
 jC pQ (iF 412 v19 0) λv63=>
 jC pQ (iF 48 v63 6) λv64=>
 ID pQ (qE 46 v64) w56.drew λv65=>
 jC pQ (iF 412 v19 1) λv66=>
 nV pQ (iL 2 v66) w56.drew λv67=>
 Ca pQ 373 #[v65,v67] w56.drew λv68 w69=>
 Sem.run pQ (iL 2 v61) w69=.ok v62 w69/\
 (jC pQ (io .add 2 false v62 v68) λv70=>
 pJ v55 λv71=>jC pQ (iF 477 v71 0) λv72=>
 ru pQ (iS 2 v72 v70) w69 λw73=>
 cT (S:=Value×Unit) (λJ76=>
 pJ v55 λv77=>jC pQ (iF 477 v77 1) λv78=>
 nV pQ (iL 2 v78) w73.drew λv79=>
 jC pQ (io .eql 2 true v79 (gI 0)) λv80=>
 sx v80
 (pJ v55 λv81=>jC pQ (iF 477 v81 2) λv82=>
 nV pQ (iL 2 v82) w73.drew λv83=>
 jC pQ (io .eql 2 true v83 (gI 0)) λv84=>
 sx v84
 (J76 ((.bool true),()) w73.drew)
 (jC pQ (iF 412 v19 0) λv85=>
 jC pQ (iF 48 v85 7) λv86=>
 nV pQ (iL 2 v86) w73.drew λv87=>
 pJ v55 λv88=>jC pQ (iF 477 v88 3) λv89=>
 nV pQ (iL 2 v89) w73.drew λv90=>
 jC pQ (io .lss 2 false v87 v90) λv91=>
 J76 (v91,()) w73.drew))
 (jC pQ (iF 412 v19 0) λv92=>
 jC pQ (iF 48 v92 7) λv93=>
 nV pQ (iL 2 v93) w73.drew λv94=>
 pJ v55 λv95=>jC pQ (iF 477 v95 3) λv96=>
 nV pQ (iL 2 v96) w73.drew λv97=>
 jC pQ (io .lss 2 false v94 v97) λv98=>
 J76 (v98,()) w73.drew))
 (SR v19 v55 J59)))
 (SE v55 v19 s10 K12)))
def Uk(v244:Vt_)(v237:Vt_)(v0:Vt_)(v2:Vt_)(a0:Vt_)(v10:Vt_)(mk229:List Nat)(K:Value->WP)(a4:Vt_)(s246:Value×Value×Unit)(K248:Value×Value×Unit->World->Prop):WP:=
 Zw <|
 Vw pQ (io .lss 3 false s246.2.1 v244) λv249=>
 Iw v249
 (Vw pQ (iX 392 v237 s246.2.1) λv251=>
 Vw pQ (iL 394 v251) λv253=>
 Vw pQ (iA 394 true (.tuple #[])) λv255=>
 Uw pQ (iS 394 v255 v253) <|
 Xw pQ (qE 120 v0) λv258=>
 Vw pQ (iL 45 v2) λv260=>
 Vw pQ (iF 394 v255 0) λv262=>
 Vw pQ (iL 45 v262) λv264=>
 Vw pQ (iF 120 v0 2) λv266=>
 Vw pQ (iL 2 v266) λv268=>
 Vw pQ (iF 394 v255 1) λv270=>
 Vw pQ (iL 2 v270) λv272=>
 Cw pQ 276 #[a0,v258,v260,v264,v10,v268,v272] λv274=>
 Vw pQ (io .neq 29 true v274 (gI 0)) λv276=>
 Iw v276
 (Tw (mk229++[]) <|
 K v274)
 (Dw <|
 Qw a4 λv279=>Pw pQ (iF 42 v279 3) λv280=>
 Ww pQ (iL 2 v280) λv281=>
 Pw pQ (iF 394 v255 1) λv282=>
 Ww pQ (iL 2 v282) λv283=>
 Pw pQ (io .add 2 false v281 v283) λv284=>
 Qw a4 λv285=>Pw pQ (iF 42 v285 3) λv286=>
 Uw pQ (iS 2 v286 v284) <|
 Dw <|
 Qw a4 λv288=>Pw pQ (iF 42 v288 4) λv289=>
 Ww pQ (iL 38 v289) λv290=>
 Pw pQ (iF 120 v0 2) λv291=>
 Ww pQ (iL 2 v291) λv292=>
 Pw pQ (iF 394 v255 1) λv293=>
 Ww pQ (iL 2 v293) λv294=>
 Pw pQ (iF 394 v255 0) λv295=>
 Ww pQ (iL 45 v295) λv296=>
 Pw pQ (Instr.build 148 #[(0,v292),(1,v294),(3,v296)]) λv297=>
 Xw pQ (rg 38 1 [(0,v297)]) λv298=>
 Ew pQ (iL 38 v289) v290 <|
 (Xw pQ (fb #[38,38] 38 [v290,v298]) λv300=>
 Qw a4 λv302=>Pw pQ (iF 42 v302 4) λv303=>
 Uw pQ (iS 38 v303 v300) <|
 Vw pQ (io .add 3 true s246.2.1 (gI 1)) λv305=>
 K248 (s246.1,v305,()))))
 (Tw (mk229++[]) <|
 K (gI 0))
def Th(v323:Vt_)(v316:Vt_)(v0:Vt_)(v2:Vt_)(a0:Vt_)(v10:Vt_)(mk229:List Nat)(K:Value->WP)(a4:Vt_)(s325:Value×Value×Unit)(K327:Value×Value×Unit->World->Prop):WP:=
 Zw <|
 Vw pQ (io .lss 3 false s325.2.1 v323) λv328=>
 Iw v328
 (Vw pQ (iX 392 v316 s325.2.1) λv330=>
 Vw pQ (iL 394 v330) λv332=>
 Vw pQ (iA 394 true (.tuple #[])) λv334=>
 Uw pQ (iS 394 v334 v332) <|
 Xw pQ (qE 120 v0) λv337=>
 Vw pQ (iL 45 v2) λv339=>
 Vw pQ (iF 394 v334 0) λv341=>
 Vw pQ (iL 45 v341) λv343=>
 Vw pQ (iF 120 v0 2) λv345=>
 Vw pQ (iL 2 v345) λv347=>
 Vw pQ (iF 394 v334 1) λv349=>
 Vw pQ (iL 2 v349) λv351=>
 Cw pQ 276 #[a0,v337,v339,v343,v10,v347,v351] λv353=>
 Vw pQ (io .neq 29 true v353 (gI 0)) λv355=>
 Iw v355
 (Tw (mk229++[]) <|
 K v353)
 (Dw <|
 Qw a4 λv358=>Pw pQ (iF 42 v358 3) λv359=>
 Ww pQ (iL 2 v359) λv360=>
 Pw pQ (iF 394 v334 1) λv361=>
 Ww pQ (iL 2 v361) λv362=>
 Pw pQ (io .add 2 false v360 v362) λv363=>
 Qw a4 λv364=>Pw pQ (iF 42 v364 3) λv365=>
 Uw pQ (iS 2 v365 v363) <|
 Dw <|
 Qw a4 λv367=>Pw pQ (iF 42 v367 4) λv368=>
 Ww pQ (iL 38 v368) λv369=>
 Pw pQ (iF 120 v0 2) λv370=>
 Ww pQ (iL 2 v370) λv371=>
 Pw pQ (iF 394 v334 1) λv372=>
 Ww pQ (iL 2 v372) λv373=>
 Pw pQ (iF 394 v334 0) λv374=>
 Ww pQ (iL 45 v374) λv375=>
 Pw pQ (Instr.build 148 #[(0,v371),(1,v373),(3,v375)]) λv376=>
 Xw pQ (rg 38 1 [(0,v376)]) λv377=>
 Ew pQ (iL 38 v368) v369 <|
 (Xw pQ (fb #[38,38] 38 [v369,v377]) λv379=>
 Qw a4 λv381=>Pw pQ (iF 42 v381 4) λv382=>
 Uw pQ (iS 38 v382 v379) <|
 Vw pQ (io .add 3 true s325.2.1 (gI 1)) λv384=>
 K327 (s325.1,v384,()))))
 (Tw (mk229++[]) <|
 K (gI 0))
def TG(v186:Vt_)(s179:Value×Unit)(K:Value->WP)(v0:Vt_)(v2:Vt_)(a0:Vt_)(v10:Vt_)(a4:Vt_)(s65:Value×Value×Value×Unit)(mk229:List Nat)(pd230:Option Code):WP:=
 jR
 (Vw pQ (iL 392 v186) λv233=>
 Cw pQ 278 #[s179.1,v233] λv235=>
 Vw pQ (Instr.extract v235 0) λv237=>
 Vw pQ (Instr.extract v235 1) λv239=>
 Vw pQ (io .neq 29 true v239 (gI 0)) λv241=>
 Iw v241
 (Tw (mk229++[]) <|
 K v239)
 (Nw pQ (builtin .len #[392] 3 #[false] #[v237]) λv244=>
 Lw (S:=Value×Value×Unit) (Uk v244 v237 v0 v2 a0 v10 mk229 K a4) (s65.1,(gI 0),())))
 (Tw (mk229++[]) <|
 K s65.1)
 (λi311=>
 Hw (Nat.beq i311 4)
 (Vw pQ (iL 392 v186) λv312=>
 Cw pQ 278 #[s179.1,v312] λv314=>
 Vw pQ (Instr.extract v314 0) λv316=>
 Vw pQ (Instr.extract v314 1) λv318=>
 Vw pQ (io .neq 29 true v318 (gI 0)) λv320=>
 Iw v320
 (Tw (mk229++[]) <|
 K v318)
 (Nw pQ (builtin .len #[392] 3 #[false] #[v316]) λv323=>
 Lw (S:=Value×Value×Unit) (Th v323 v316 v0 v2 a0 v10 mk229 K a4) (s65.1,(gI 0),())))
 ((λ_=>False))) pd230
def U9(v2:Vt_)(v186:Vt_)(l195:Nat)(x196:LV_)(KN198:World->Prop)(KJ199:Code->World->Prop):WP:=
 Vw pQ (iA 124 true (.tuple #[])) λv200=>
 Uw pQ (iS 124 v200 (x196.getD 0 undef)) <|
 Gw l195 <|
 Vw pQ (iF 124 v200 1) λv204=>
 Vw pQ (iL 45 v204) λv206=>
 Vw pQ (iL 45 v2) λv208=>
 Vw pQ (io .neq 45 false v206 v208) λv210=>
 Iw v210
 (Vw pQ (iL 392 v186) λv212=>
 Vw pQ (iF 124 v200 1) λv214=>
 Vw pQ (iL 45 v214) λv216=>
 Vw pQ (iF 124 v200 2) λv218=>
 Vw pQ (iL 2 v218) λv220=>
 Vw pQ (Instr.build 394 #[(0,v216),(1,v220)]) λv222=>
 Xw pQ (rg 392 1 [(0,v222)]) λv224=>
 Xw pQ (fb #[392,392] 392 [v212,v224]) λv226=>
 Uw pQ (iS 392 v186 v226) <|
 KN198)
 (KN198)
def LQ(a0:Vt_)(v8:Vt_)(v2:Vt_)(K:Value->WP)(v0:Vt_)(v10:Vt_)(a4:Vt_)(s65:Value×Value×Value×Unit)(s179:Value×Unit):WP:=
 Zw <|
 Vw pQ (iA 392 true (.tuple #[])) λv186=>
 Qw a0 λv188=>Vw pQ (iF 93 v188 1) λv189=>
 Vw pQ (iL 88 v189) λv191=>
 Cw pQ 60 #[v191,v8] λv193=>
 Rw pQ none v193 1 (U9 v2 v186) (TG v186 s179 K v0 v2 a0 v10 a4 s65)
def Te(v63:Vt_)(v57:Vt_)(v0:Vt_)(v2:Vt_)(a0:Vt_)(v10:Vt_)(v55:Vt_)(K:Value->WP)(a4:Vt_)(v8:Vt_)(s65:Value×Value×Value×Unit)(K67:Value×Value×Value×Unit->World->Prop):WP:=
 Zw <|
 Vw pQ (io .lss 3 false s65.2.2.1 v63) λv68=>
 Iw v68
 (Vw pQ (iX 386 v57 s65.2.2.1) λv70=>
 Vw pQ (iL 390 v70) λv72=>
 Vw pQ (iA 390 true (.tuple #[])) λv74=>
 Uw pQ (iS 390 v74 v72) <|
 Xw pQ (qE 120 v0) λv77=>
 Vw pQ (iL 45 v2) λv79=>
 Vw pQ (iF 390 v74 1) λv81=>
 Vw pQ (iL 45 v81) λv83=>
 Vw pQ (iF 390 v74 2) λv85=>
 Vw pQ (iL 2 v85) λv87=>
 Cw pQ 276 #[a0,v77,v79,v83,v10,v55,v87] λv89=>
 Vw pQ (io .neq 29 true v89 (gI 0)) λv91=>
 Iw v91
 (K v89)
 (Vw pQ (iF 390 v74 2) λv93=>
 Vw pQ (iL 2 v93) λv95=>
 Vw pQ (io .sub 2 false s65.2.1 v95) λv97=>
 Dw <|
 Qw a4 λv99=>Pw pQ (iF 42 v99 2) λv100=>
 Ww pQ (iL 2 v100) λv101=>
 Pw pQ (iF 390 v74 2) λv102=>
 Ww pQ (iL 2 v102) λv103=>
 Pw pQ (io .add 2 false v101 v103) λv104=>
 Qw a4 λv105=>Pw pQ (iF 42 v105 2) λv106=>
 Uw pQ (iS 2 v106 v104) <|
 Dw <|
 Qw a4 λv108=>Pw pQ (iF 42 v108 4) λv109=>
 Ww pQ (iL 38 v109) λv110=>
 Pw pQ (iF 390 v74 2) λv111=>
 Ww pQ (iL 2 v111) λv112=>
 Pw pQ (iF 390 v74 0) λv113=>
 Ww pQ (iL 37 v113) λv114=>
 Pw pQ (iF 390 v74 1) λv115=>
 Ww pQ (iL 45 v115) λv116=>
 Pw pQ (Instr.build 148 #[(0,v55),(1,v112),(2,v114),(3,v116)]) λv117=>
 Xw pQ (rg 38 1 [(0,v117)]) λv118=>
 Ew pQ (iL 38 v109) v110 <|
 (Xw pQ (fb #[38,38] 38 [v110,v118]) λv120=>
 Qw a4 λv122=>Pw pQ (iF 42 v122 4) λv123=>
 Uw pQ (iS 38 v123 v120) <|
 Qw a0 λv125=>Vw pQ (iF 93 v125 3) λv126=>
 Vw pQ (iL 91 v126) λv128=>
 Xw pQ (jQ 91 v128 v8 false) λv130=>
 Cw pQ 213 #[v130,(.func (.func 277) #[] #[v74])] λv132=>
 Dw <|
 Qw a0 λv134=>Pw pQ (iF 93 v134 3) λv135=>
 Ww pQ (iL 91 v135) λv136=>
 Yc pQ (jQ 91 v136 v8 false) λv137=>
 Pw pQ (iX 146 v137 v132) λv138=>
 Pw pQ (iF 130 v138 4) λv139=>
 Ww pQ (iL 2 v139) λv140=>
 Pw pQ (iF 390 v74 2) λv141=>
 Ww pQ (iL 2 v141) λv142=>
 Pw pQ (io .sub 2 false v140 v142) λv143=>
 Pw pQ (iX 146 v137 v132) λv144=>
 Pw pQ (iF 130 v144 4) λv145=>
 Uw pQ (iS 2 v145 v143) <|
 Qw a0 λv147=>Vw pQ (iF 93 v147 3) λv148=>
 Vw pQ (iL 91 v148) λv150=>
 Xw pQ (jQ 91 v150 v8 false) λv152=>
 Vw pQ (iX 146 v152 v132) λv154=>
 Vw pQ (iF 130 v154 4) λv156=>
 Vw pQ (iL 2 v156) λv158=>
 Vw pQ (io .eql 2 true v158 (gI 0)) λv160=>
 Iw v160
 (Dw <|
 Qw a0 λv162=>Pw pQ (iF 93 v162 3) λv163=>
 Ww pQ (iL 91 v163) λv164=>
 Qw a0 λv165=>Pw pQ (iF 93 v165 3) λv166=>
 Ww pQ (iL 91 v166) λv167=>
 Yc pQ (jQ 91 v167 v8 false) λv168=>
 Pw pQ (io .add 3 true v132 (gI 1)) λv169=>
 Cw pQ 215 #[v168,v132,v169] λv170=>
 Ew pQ (iL 91 v163) v164 <|
 (Yw pQ (qX 91 v164 v8 v170) <|
 Vw pQ (io .add 3 true s65.2.2.1 (gI 1)) λv173=>
 K67 (s65.1,v97,v173,())))
 (Vw pQ (io .add 3 true s65.2.2.1 (gI 1)) λv175=>
 K67 (s65.1,v97,v175,())))))
 (Vw pQ (io .eql 2 true s65.2.1 (gI 0)) λv177=>
 Iw v177
 (K (gI 0))
 (Jw (S:=Value×Unit) (λJ181=>
 Vw pQ (Op.unary .not v10) λv182=>
 Iw v182
 (Vw pQ (Op.unary .neg s65.2.1) λv184=>
 J181 (v184,()))
 (J181 (s65.2.1,())))
 (LQ a0 v8 v2 K v0 v10 a4 s65)))
def WA(a0:Vt_)(K:aZ)(v6:Vt_)(v4:Vt_)(s10:Value×Unit)(w11:Wt_):Prop:=
 ∀_:Nat->Value,
 rv pQ (io .neq 29 true s10.1 (gI 0)) w11 λv20 w21=>
 sx v20
 (pJ a0 λv22=>rv pQ (iF 260 v22 2) w21 λv23 w24=>
 ru pQ (iS 29 v23 s10.1) w24 λw25=>
 K (gQ 0) w25)
 (pJ a0 λv26=>rv pQ (iF 260 v26 1) w21 λv27 w28=>
 ru pQ (iS 3 v27 v6) w28 λw29=>
 K v4 w29)
def V9(J88:Value×Unit->World->Prop)(s74:Value×Value×Value×Unit)(s89:Value×Unit)(w90:Wt_):Prop:=
 ∀_:Nat->Value,
 sx s89.1
 (J88 ((gQ 0),()) w90)
 (J88 (s74.2.1,()) w90)
def VR(K:aZ)(v83:Vt_)(a0:Vt_)(s74:Value×Value×Value×Unit)(K76:Value×Value×Value×Unit->World->Prop)(s102:Value×Unit)(w103:Wt_):Prop:=
 ∀_:Nat->Value,
 sx s102.1
 (K (.bool false) w103)
 (rv pQ (iF 132 v83 1) w103 λv121 w122=>
 rv pQ (iF 130 v121 0) w122 λv123 w124=>
 rv pQ (iL 37 v123) w124 λv125 w126=>
 pJ a0 λv127=>jC pQ (iF 93 v127 3) λv128=>
 nV pQ (iL 91 v128) w126.drew λv129=>
 jC pQ (iF 132 v83 0) λv130=>
 nV pQ (iL 45 v130) w126.drew λv131=>
 pJ a0 λv132=>jC pQ (iF 93 v132 3) λv133=>
 nV pQ (iL 91 v133) w126.drew λv134=>
 jC pQ (iF 132 v83 0) λv135=>
 nV pQ (iL 45 v135) w126.drew λv136=>
 ID pQ (jQ 91 v134 v136 false) w126.drew λv137=>
 jC pQ (iF 132 v83 1) λv138=>
 nV pQ (iL 130 v138) w126.drew λv139=>
 rx pQ (rg 146 1 [(0,v139)]) w126.drew λv140 w141=>
 Sem.run pQ (jQ 91 v134 v136 false) w141=.ok v137 w141/\Sem.run pQ (iL 45 v135) w141=.ok v136 w141/\Sem.run pQ (iL 91 v133) w141=.ok v134 w141/\Sem.run pQ (iL 45 v130) w141=.ok v131 w141/\Sem.run pQ (iL 91 v128) w141=.ok v129 w141/\
 (rx pQ (fb #[146,146] 146 [v137,v140]) w141 λv142 w143=>
 Sem.run pQ (iL 45 v130) w143=.ok v131 w143/\Sem.run pQ (iL 91 v128) w143=.ok v129 w143/\
 (yS pQ (qX 91 v129 v131 v142) w143 λw144=>
 rv pQ (io .add 3 true s74.2.2.1 (gI 1)) w144 λv145 w146=>
 K76 (s74.1,v125,v145,()) w146)))
def Wh(v83:Vt_)(a0:Vt_)(v2:Vt_)(K:aZ)(s74:Value×Value×Value×Unit)(K76:Value×Value×Value×Unit->World->Prop)(s86:Value×Unit)(w87:Wt_):Prop:=
 ∀_:Nat->Value,
 cT (S:=Value×Unit) (λJ104=>
 nV pQ (iL 132 v83) w87.drew λv105=>
 Ca pQ 154 #[a0,v105,(.bool false),v2] w87.drew λv106 w107=>
 jC pQ (Op.unary .not v106) λv108=>
 sx v108
 (J104 ((.bool true),()) w107)
 (jC pQ (iF 132 v83 1) λv109=>
 jC pQ (iF 130 v109 0) λv110=>
 nV pQ (iL 37 v110) w107 λv111=>
 jC pQ (io .leq 37 false v111 s86.1) λv112=>
 sx v112
 (J104 ((.bool true),()) w107)
 (pJ a0 λv113=>jC pQ (iF 93 v113 3) λv114=>
 nV pQ (iL 91 v114) w107 λv115=>
 jC pQ (iF 132 v83 0) λv116=>
 nV pQ (iL 45 v116) w107 λv117=>
 ID pQ (jQ 91 v115 v117 false) w107 λv118=>
 nV pQ (Builtin.len_ #[146] 3 #[v118]) w107 λv119=>
 jC pQ (io .geq 3 true v119 (gI 50)) λv120=>
 J104 (v120,()) w107)))
 (VR K v83 a0 s74 K76)
def Wl(v72:Vt_)(v70:Vt_)(v0:Vt_)(a0:Vt_)(v2:Vt_)(K:aZ)(s74:Value×Value×Value×Unit)(w75:Wt_)(K76:Value×Value×Value×Unit->World->Prop):Prop:=
 ∀_:Nat->Value,
 rv pQ (io .lss 3 false s74.2.2.1 v72) w75 λv77 w78=>
 sx v77
 (rv pQ (iX 56 v70 s74.2.2.1) w78 λv79 w80=>
 rv pQ (iL 132 v79) w80 λv81 w82=>
 rv pQ (iA 132 true (.tuple #[])) w82 λv83 w84=>
 ru pQ (iS 132 v83 v81) w84 λw85=>
 cT (S:=Value×Unit) (λJ88=>
 cT (S:=Value×Unit) (λJ91=>
 jC pQ (io .gtr 3 true s74.2.2.1 (gI 0)) λv92=>
 sx v92
 (jC pQ (iF 132 v83 0) λv93=>
 nV pQ (iL 45 v93) w85.drew λv94=>
 jC pQ (iF 58 v0 7) λv95=>
 nV pQ (iL 56 v95) w85.drew λv96=>
 jC pQ (io .sub 3 true s74.2.2.1 (gI 1)) λv97=>
 jC pQ (iX 56 v96 v97) λv98=>
 jC pQ (iF 132 v98 0) λv99=>
 nV pQ (iL 45 v99) w85.drew λv100=>
 jC pQ (io .neq 45 false v94 v100) λv101=>
 J91 (v101,()) w85.drew)
 (J91 ((.bool false),()) w85.drew))
 (V9 J88 s74))
 (Wh v83 a0 v2 K s74 K76))
 (K (.bool true) w78)
end Go.Proofs
