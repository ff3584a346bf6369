/- Part of a proof. -/
import Derived.Test.YtekbnpagidkbbaaGreatT4
set_option linter.all false
set_option maxRecDepth 100000
set_option maxHeartbeats 4000000
namespace Go.Vc
open Go Go.Vc
variable {S:Type}{w:Wt_}
inductive Sy where
 |t (v:Vt_)
 |b (c:Bool)
 |u
abbrev El:=List (Nat×Sy)
abbrev Om:=Option (List Nat)
def Sy.v(s:Sy):Value:=match s with
 | .t v=>v
 | .b c=>.bool c
 | .u=>undef
def X9(v:Vt_):Sy:=match v with
 | .bool b=>.b b
 |v=>.t v
def zO:Bool->Sy->El->Nat->Sy
 |true,s,_,_=>s
 |false,_,[],_=>.u
 |false,_,(k,s)::r,t=>zO (k==t) s r t
def yq(l:El)(x:Operand):Sy:=match x with
 | .tmp t=>zO false .u l t
 | .const v=>X9 v
 | .global g=>.t (cU g 0)
 | .func f=>.t (.func (.func f) #[] #[])
def fZ(l:El)(x:Operand):Value:=(yq l x).v
def pf(l:El):List Operand->List Value
 | []=>[]
 |x::r=>fZ l x::pf l r
def zm(l:El):List (Nat×Operand)->List (Nat×Value)
 | []=>[]
 |(i,x)::r=>(i,fZ l x)::zm l r
def E0(l:El)(x:Option Operand):Option Value:=match x with
 |none=>none
 |some x=>some (fZ l x)
def TC:List Operand->List Bool
 | []=>[]
 |x::r=>FK x::TC r
def oV(d:Option Nat)(s:Sy)(l:El):El:=match d with
 |none=>l
 |some d=>(d,s)::l
def HW:Nat->List Value->El
 |_,[]=>[]
 |i,v::r=>(i,.t v)::HW (i+1) r
def zL(l:El):(L:List Nat)->E3 L
 | []=>()
 |t::r=>((zO false .u l t).v,zL l r)
def DA:(L:List Nat)->E3 L->El->El
 | [],_,l=>l
 |t::r,s,l=>(t,.t s.1)::DA r s.2 l
def KX:List Nat->Nat->List Value->El->El
 | [],_,_,l=>l
 |t::r,i,x,l=>KX r (i+1) x ((t,.t (x.getD i undef))::l)
def Jr(d:Om):List Nat:=match d with
 |none=>[]
 |some d=>d
def TS{α:Type}:List α->Nat
 | []=>0
 |_::r=>TS r+1
def OS:List Value->Value->List Value
 | [],v=>[v]
 |x::r,v=>x::OS r v
def Sn(l:LV_):Value:=match l with
 | [v]=>v
 |l=>.tuple l.toArray
def uB(B t:Nat):Bool:=(B>>>t)%2==1
def LU(t:Nat):Nat:=2 ^ (t / 2)*2 ^ (t - t / 2)
def Ox(b:Bool):Bool:=match b with
 |true=>false
 |false=>true
def NX(a b:Bool):Bool:=match a with
 |true=>b
 |false=>false
def ui(a b:Bool):Bool:=match a with
 |true=>true
 |false=>b
inductive Ac where
 |q (s:Sy)
 |pk (v x y:Vt_)
 |nk (v:Vt_)
 |v (s:Sem Value)
 |x (s:Sem Value)
 |n (s:Sem Next)
 |c (f:FuncId) (a:LV_)
 |rn (f:FuncId) (a:LV_)
 |f (g:Vt_) (a:LV_)
 |u (s:Sem Unit)
 |y (s:Sem Unit)
 |p (s:Sem Value)
 |px (s:Sem Value)
 |w (s:Sem Value)
 |wx (s:Sem Value)
 |z
def BH(b:Bool)(x y:Ac):Ac:=match b with
 |true=>x
 |false=>y
def MD(c x y:Sy):Ac:=match c with
 | .b true=>.q x
 | .b false=>.q y
 |c=>.pk c.v x.v y.v
def Ur(B S N:Nat)(l:El)(o:Oper):Ac:=match o.op with
 | .move x=>.q (yq l x)
 | .assign x=>.q (yq l x)
 | .pick c x y=>MD (yq l c) (yq l x) (yq l y)
 | .nilCheck x=>.nk (fZ l x)
 | .makeFunc f a b=>.q (.t (.func f (pf l a.toList).toArray (pf l b.toList).toArray))
 | .alloc e=>BH (uB B e) (.x (vR e)) (.v (iA e true (.tuple #[])))
 | .box e x=>.v (Instr.box e (fZ l x))
 | .build t ps=>BH (uB B t) (.x (CV t (zm l ps.toList).toArray)) (.v (Instr.build t (zm l ps.toList).toArray))
 | .buildSlice t n ps=>.x (qL t n (zm l ps.toList))
 | .load t x=>BH (uB B t) (.x (pp t (fZ l x))) (.v (iL t (fZ l x)))
 | .store t x y=>BH (uB B t) (.y (ur t (fZ l x) (fZ l y))) (.u (iS t (fZ l x) (fZ l y)))
 | .binOp op t x y _=>.v (nV op t (ui (FK x) (FK y)) (fZ l x) (fZ l y))
 | .unOp op _ x=>.v (Op.unary op (fZ l x))
 | .convert s d x=>BH (ui (uB S s) (uB S d)) (.x (sn s d (fZ l x))) (.v (convert s d (fZ l x)))
 | .sliceToArrayPointer t x=>.v (Instr.arrayAt t (fZ l x))
 | .makeInterface t x=>.v (Instr.makeInterface t (fZ l x))
 | .makeMap t r=>.v (Instr.makeMap t (E0 l r))
 | .makeSlice t a b=>.x (Ed t (fZ l a) (fZ l b))
 | .slice t x a b c=>.v (Instr.sliceAt t (fZ l x) (E0 l a) (E0 l b) (E0 l c))
 | .fieldAddr t x f=>.v (iF t (fZ l x) f)
 | .field t x f=>.v (Instr.field t (fZ l x) f)
 | .indexAddr t x i=>.v (iX t (fZ l x) (fZ l i))
 | .index t x i=>.v (Instr.index t (fZ l x) (fZ l i))
 | .lookup t x i ok=>.x (jF t (fZ l x) (fZ l i) ok)
 | .mapUpdate t m k x=>.y (rP t (fZ l m) (fZ l k) (fZ l x))
 | .insert t m k x=>.y (rP t (fZ l m) (fZ l k) (fZ l x))
 | .range t x=>.x (Bf t (fZ l x))
 | .next it s=>.x (Ea (fZ l it) s o.type)
 | .entry it=>.x (Bh (fZ l it))
 | .mapEntry t m k=>.x (KZ t (fZ l m) (fZ l k))
 | .entryStore t m s x=>.y (PF t (fZ l m) (fZ l s) (fZ l x))
 | .typeAssert x t u ok=>.v (Instr.typeAssert (fZ l x) t u ok)
 | .extract t i=>.v (Instr.extract (fZ l t) i)
 | .call c=>match c.callee with
  | .value (.func f)=>BH (uB N f) (.rn f (pf l c.args.toList)) (.c f (pf l c.args.toList))
  | .value f=>.f (fZ l f) (pf l c.args.toList)
  | .builtin .append=>.x (ff c.argTypes o.type (pf l c.args.toList))
  | .builtin .copy=>.x (LH c.argTypes o.type (pf l c.args.toList))
  | .builtin .delete=>.x (te c.argTypes o.type (pf l c.args.toList))
  | .builtin .clear=>.x (AY c.argTypes o.type (pf l c.args.toList))
  | .builtin b=>.n (builtin b c.argTypes o.type (TC c.args.toList).toArray (pf l c.args.toList).toArray)
  |_=>.z
 |_=>.z
def Sq(S:Nat)(o:Oper):Bool:=match o.op with
 | .move _| .pick .. | .nilCheck _| .makeFunc .. =>true
 | .binOp .. | .unOp .. | .fieldAddr .. | .field .. | .indexAddr .. | .index .. | .slice .. | .sliceToArrayPointer .. | .extract .. | .build .. | .makeInterface .. =>true
 | .load .. | .lookup .. =>true
 | .convert _ d _=>Ox (uB S d)
 | .call c=>match c.callee with
  | .builtin .len=>true
  | .builtin .min=>true
  | .builtin .max=>true
  |_=>false
 |_=>false
def Xo(B S:Nat)(l:El)(o:Oper):Ac:=match o.op with
 | .move x=>.q (yq l x)
 | .pick c x y=>MD (yq l c) (yq l x) (yq l y)
 | .nilCheck x=>.nk (fZ l x)
 | .makeFunc f a b=>.q (.t (.func f (pf l a.toList).toArray (pf l b.toList).toArray))
 | .build t ps=>BH (uB B t) (.px (CV t (zm l ps.toList).toArray)) (.p (Instr.build t (zm l ps.toList).toArray))
 | .binOp op t x y _=>.p (nV op t (ui (FK x) (FK y)) (fZ l x) (fZ l y))
 | .unOp op _ x=>.p (Op.unary op (fZ l x))
 | .sliceToArrayPointer t x=>.p (Instr.arrayAt t (fZ l x))
 | .makeInterface t x=>.p (Instr.makeInterface t (fZ l x))
 | .slice t x a b c=>.p (Instr.sliceAt t (fZ l x) (E0 l a) (E0 l b) (E0 l c))
 | .fieldAddr t x f=>.p (iF t (fZ l x) f)
 | .field t x f=>.p (Instr.field t (fZ l x) f)
 | .indexAddr t x i=>.p (iX t (fZ l x) (fZ l i))
 | .index t x i=>.p (Instr.index t (fZ l x) (fZ l i))
 | .extract t i=>.p (Instr.extract (fZ l t) i)
 | .load t x=>BH (uB B t) (.wx (pp t (fZ l x))) (.w (iL t (fZ l x)))
 | .lookup t x i ok=>.wx (jF t (fZ l x) (fZ l i) ok)
 | .convert s d x=>BH (ui (uB S s) (uB S d)) (.wx (sn s d (fZ l x))) (.w (convert s d (fZ l x)))
 | .call c=>match c.callee with
  | .builtin .len=>.w (Builtin.len_ c.argTypes o.type (pf l c.args.toList).toArray)
  | .builtin .min=>.w (Builtin.min_ c.argTypes o.type (pf l c.args.toList).toArray)
  | .builtin .max=>.w (Builtin.max_ c.argTypes o.type (pf l c.args.toList).toArray)
  |_=>.z
 |_=>.z
inductive Gd where
 |y
 |n
 |a (v:Vt_) (s:Nat) (c:Bool)
def Ma:List Oper->Nat->Option Nat
 | [],_=>none
 |o::_,0=>o.dst
 |_::r,j+1=>Ma r j
def SV(b c:Bool):Gd:=match b,c with
 |true,true=>.y
 |false,false=>.y
 |_,_=>.n
def Ta(s:Sy)(d:Nat)(c:Bool):Gd:=match s with
 | .u=>.n
 | .b b=>SV b c
 | .t v=>.a v d c
def S2(d:Option Nat)(c:Bool)(l:El):Gd:=match d with
 |none=>.n
 |some d=>Ta (zO false .u l d) d c
def Ou(ops:List Oper)(l:El)(g:Option (Nat×Bool)):Gd:=match g with
 |none=>.y
 |some (j,c)=>S2 (Ma ops j) c l
structure N7 where
 i:Nat
 m:Nat
 dm:Nat
 am:Nat
 rd:Bool
 o:Oper
def Xy(g:Ground)(x:Nat):Nat:=match g with
 | .textOnly _=>0
 | .gcOnly _=>0
 |_=>x
def xT:List Edge->Nat
 | []=>0
 |e::r=>Xy e.ground (2 ^ e.on)|||xT r
def HB(dm:Nat):List (Nat×Nat)->Nat
 | []=>0
 |(i,a)::r=>((dm / i)%2*a)|||HB dm r
def wz(S:Nat):List Oper->Nat->List (Nat×Nat)->List N7
 | [],_,_=>[]
 |o::r,i,A=>⟨i,xT o.after.toList|||i,xT o.after.toList,xT o.after.toList|||HB (xT o.after.toList) A,Sq S o,o⟩::
   wz S r (i*2) ((i,xT o.after.toList|||HB (xT o.after.toList) A)::A)
def LF:Bool->Option N7->List N7->Nat->Option N7
 |true,e,_,_=>e
 |false,_,[],_=>none
 |false,_,e::r,dn=>LF (NX e.rd (dn&&& e.m==e.dm)) (some e) r dn
def JG(b:Bool)(e:N7)(l:List N7):List N7:=match b with
 |true=>e::l
 |false=>l
def Lk(dn:Nat):List N7->List N7
 | []=>[]
 |e::r=>JG (dn&&& e.m==e.dm) e (Lk dn r)
abbrev Pd:=List (Nat×Sem Value×Value)
def Qf(b:Bool)(p:Nat×Sem Value×Value)(l:Pd):Pd:=match b with
 |true=>p::l
 |false=>l
def PH(am:Nat):Pd->Pd
 | []=>[]
 |(i,s,v)::r=>Qf (am&&& i==0) (i,s,v) (PH am r)
structure Rg where
 ops:List Oper
 es:List N7
def R3(a b:Nat):Nat:=a+b - (a+b - 2)
def UT(a b:Nat):Nat:=a*b - (a*b - 2)
def uG:Code->Bool
 | .seq a b=>ui (uG a) (uG b)
 | .cond _ a b=>ui (uG a) (uG b)
 | .block _ c=>uG c
 | .loop c=>uG c
 | .scope c=>uG c
 | .rangeFunc .. =>true
 | .skip=>false
 | .region .. =>false
 | .exit _=>false
 | .label _=>false
 | .goto _=>false
 | .ret=>false
 | .refuse _=>false
def Fo:List Oper->Bool
 | []=>false
 |o::r=>ui (match o.guard with|none=>false|some _=>true) (Fo r)
def Fm(o:Oper):Bool:=match o.op with
 | .alloc _| .box .. | .buildSlice .. | .makeSlice .. | .makeMap .. | .call _| .store .. | .mapUpdate .. | .insert .. | .mapEntry .. | .entryStore .. =>true
 |_=>false
def J4(b:Bool)(m i am:Nat):Bool:=match b with
 |true=>Ox (m&&& am==m)
 |false=>false
def Kl(b:Bool)(m i:Nat):Nat:=match b with
 |true=>m|||i
 |false=>m
def Mj:List N7->Nat->Bool
 | [],_=>false
 |e::r,m=>ui (J4 (Fm e.o) m e.i e.am) (Mj r (Kl (Fm e.o) m e.i))
def Ro(S:Nat)(ops:List Oper)(draw:Bool):Nat:=match ui (Fo ops) (NX draw (Mj (wz S ops 1 []) 0))with
 |true=>2
 |false=>1
def X1(b:Bool)(x y:Nat):Nat:=match b with
 |true=>x
 |false=>y
def SC:List Oper->Nat
 | []=>0
 | [_]=>1
 | [_,_]=>2
 |_::_::_::_=>3
def DE:Code->Nat
 | .region _ ops _=>SC ops.toList
 | .seq a b=>DE a+DE b
 | .cond _ _ _=>9
 | .block _ c=>DE c
 | .loop _=>9
 | .rangeFunc .. =>9
 | .skip=>0
 | .scope _=>0
 | .exit _=>0
 | .label _=>0
 | .goto _=>0
 | .ret=>0
 | .refuse _=>0
def HC:Bool->Nat->List (Nat×Nat)->Nat->Nat
 |true,x,_,_=>x
 |false,_,[],_=>0
 |false,_,(k,x)::r,i=>HC (k==i) x r i
def Il:List (Nat×Nat)->List (Nat×Nat)->List (Nat×Nat)
 | [],b=>b
 |(k,x)::r,b=>(k,R3 x (HC false 0 b k))::Il r b
def KV(m:Nat):List (Nat×Nat)->List (Nat×Nat)
 | []=>[]
 |(k,x)::r=>(k,UT m x)::KV m r
def LV(n:Nat)(a b:Code):Bool:=NX (n==2) (NX (Ox (uG a)) (Ox (DE b / 3==0)))
structure Xs where
 n:Nat
 l:List (Nat×Nat)
def Qm(n:Nat)(x y:Xs):Xs:=⟨UT n y.n,Il x.l (KV n y.l)⟩
def XX(x y:Xs)(a b:Code):Xs:=Qm (X1 (LV x.n a b) 1 x.n) x y
def Y0(x y:Xs):Xs:=⟨R3 x.n y.n,Il x.l y.l⟩
def XW(x:Xs)(i:Nat):Xs:=⟨R3 x.n (HC false 0 x.l i),x.l⟩
def xA(S:Nat):Code->Xs
 | .region _ ops d=>⟨Ro S ops.toList d,[]⟩
 | .seq a b=>XX (xA S a) (xA S b) a b
 | .cond _ a b=>Y0 (xA S a) (xA S b)
 | .block i c=>XW (xA S c) i
 | .loop c=>⟨0,(xA S c).l⟩
 | .exit i=>⟨0,[(i,1)]⟩
 | .ret=>⟨0,[]⟩
 | .refuse _=>⟨0,[]⟩
 | .goto _=>⟨0,[]⟩
 | .skip=>⟨1,[]⟩
 | .scope _=>⟨1,[]⟩
 | .label _=>⟨1,[]⟩
 | .rangeFunc .. =>⟨1,[]⟩
def PT(d:Option Nat)(m:Nat):Nat:=match d with
 |none=>m
 |some d=>m|||LU d
def KG:List Oper->Nat->Nat
 | [],m=>m
 |o::r,m=>KG r (PT o.dst m)
def uM:Code->Nat->Nat
 | .region _ ops _,m=>KG ops.toList m
 | .seq a b,m=>uM b (uM a m)
 | .cond _ a b,m=>uM b (uM a m)
 | .block _ c,m=>uM c m
 | .loop c,m=>uM c m
 | .scope c,m=>uM c m
 | .skip,m=>m
 | .exit _,m=>m
 | .label _,m=>m
 | .goto _,m=>m
 | .ret,m=>m
 | .refuse _,m=>m
 | .rangeFunc ..,m=>m
structure Lv where
 m:Nat
 l:List Nat
def KS(b:Bool)(k:Nat)(s:Lv):Lv:=match b with
 |true=>⟨s.m - LU k,k::s.l⟩
 |false=>s
def Gr:El->Lv->Lv
 | [],s=>s
 |(k,_)::r,s=>Gr r (KS (uB s.m k) k s)
def oY(x:Operand)(s:Lv):Lv:=match x with
 | .tmp t=>KS (uB s.m t) t s
 |_=>s
def yS:List Operand->Lv->Lv
 | [],s=>s
 |x::r,s=>yS r (oY x s)
def EY:List (Nat×Operand)->Lv->Lv
 | [],s=>s
 |(_,x)::r,s=>EY r (oY x s)
def Df(x:Option Operand)(s:Lv):Lv:=match x with
 |some x=>oY x s
 |none=>s
def Pp(o:Op)(s:Lv):Lv:=match o with
 | .move x| .assign x| .box _ x| .load _ x| .nilCheck x| .unOp _ _ x| .convert _ _ x| .sliceToArrayPointer _ x| .makeInterface _ x
 | .makeChan _ x| .fieldAddr _ x _| .field _ x _| .range _ x| .next x _| .entry x| .typeAssert x _ _ _| .extract x _| .panic x| .recv _ x _=>oY x s
 | .pick c a b=>oY b (oY a (oY c s))
 | .build _ ps| .buildSlice _ _ ps=>EY ps.toList s
 | .store _ a v| .binOp _ _ a v _| .makeSlice _ a v| .indexAddr _ a v| .index _ a v| .lookup _ a v _| .mapEntry _ a v| .send a v=>oY v (oY a s)
 | .makeFunc _ a b=>yS b.toList (yS a.toList s)
 | .makeMap _ r=>Df r s
 | .slice _ x a b c=>Df c (Df b (Df a (oY x s)))
 | .mapUpdate _ m k v| .entryStore _ m k v| .insert _ m k v=>oY v (oY k (oY m s))
 | .call c=>yS c.args.toList (match c.callee with
  | .value f=>oY f s
  |_=>s)
 |_=>s
def KH:List Oper->Lv->Lv
 | [],s=>s
 |o::r,s=>KH r (Pp o.op s)
def tW:Code->Lv->Lv
 | .region _ ops _,s=>KH ops.toList s
 | .seq a b,s=>tW b (tW a s)
 | .cond c a b,s=>tW b (tW a (oY c s))
 | .block _ c,s=>tW c s
 | .loop c,s=>tW c s
 | .scope c,s=>tW c s
 | .rangeFunc g _ a b,s=>tW b (tW a (oY g s))
 | .skip,s=>s
 | .exit _,s=>s
 | .label _,s=>s
 | .goto _,s=>s
 | .ret,s=>s
 | .refuse _,s=>s
inductive It where
 |c (c:Code)
 |b (i:Nat)
 |e (k:El->Om->WP)
 |k (a:WP) (b:Code->WP)
 |a (i:Nat) (c:Code) (a:WP) (b:Code->WP)
inductive Md where
 |l
 |r (i:Nat)
 |a
inductive Job where
 |s
 |r
 |x (i:Nat)
 |xb (b:Bool) (i:Nat)
 |xv (i:Nat)
 |c (c:Code)
 |j (b:Bool) (a c:Code)
 |j1 (s:Lv) (a c:Code)
 |j2 (b:Bool) (s:Lv) (a c:Code)
 |jl (L:List Nat) (a c:Code)
 |i (s:Sy) (a c:Code)
 |lp (rf:Bool) (L:List Nat) (c:Code)
 |l (ops r:List Oper)
 |d (R:Rg) (dn:Nat) (pd:Pd)
 |f (e:Option N7) (R:Rg) (dn:Nat) (pd:Pd)
 |e (es:List N7) (R:Rg) (dn:Nat) (pd:Pd)
 |g (m:Md) (g:Gd) (o:Oper) (nx:Job)
 |o (a:Ac) (i:Nat) (d:Option Nat) (nx:Job)
 |v (pd:Pd) (nx:Job)
 |re (rs:List ResultVar) (vs:LV_)
 |rb (b:Bool) (a:Vt_) (t:TypeId) (rs:List ResultVar) (vs:LV_)
def uo:WP:=λ_=>False
def Wy(P:Program)(f:FuncId)(a:LV_)(k:Value->WP):WP:=λw=>rnx P f a w k
class Hd(α:Type) where
 v:α
def Uz{α:Type} [h:Hd α]:α:=h.v
abbrev LoB(S:Type):=S->World->(S->World->Prop)->Prop
abbrev YN(S:Type):=S->World->Prop
abbrev Xr:=Nat->List Value->World->(World->Prop)->(Code->World->Prop)->Prop
abbrev Zo:=List Nat->Option Code->World->Prop
def rT{b:LoB S}{s:S}{k:S->World->Prop}(h:b s w k): @Uz (LoB S) ⟨b⟩ s w k:=h
def qk{b:YN S}{s:S}(h:b s w): @Uz (YN S) ⟨b⟩ s w:=h
def ouR{b:Xr}{i:Nat}{x:LV_}{n:World->Prop}{j:Code->World->Prop}(h:b i x w n j): @Uz Xr ⟨b⟩ i x w n j:=h
def XP{b:Zo}{m:List Nat}{p:Option Code}(h:b m p w): @Uz Zo ⟨b⟩ m p w:=h
def KQ{S:Type}(b:LoB S)(s:S)(w:Wt_):Prop:=qV b s w
def Ml{S:Type}(A:(YN S)->Prop)(B:YN S):Prop:=dU A B
def WO(P:Program)(ro:Option Nat)(g:Vt_)(w:Wt_)(n:Nat)(r:Xr)(a:Zo):Prop:=HD P ro g w n r a
def Rb{b:LoB S}{s:S}:KQ b s w=qV (@Uz (LoB S) ⟨b⟩) s w:=rfl
def SS{A:(YN S)->Prop}{B:YN S}:Ml A B=dU A (@Uz (YN S) ⟨B⟩):=rfl
def YI{P:Program}{ro:Option Nat}{g:Vt_}{n:Nat}{r:Xr}{a:Zo}:WO P ro g w n r a=HD P ro g w n (@Uz Xr ⟨r⟩) (@Uz Zo ⟨a⟩):=rfl
def ouF{P:Program}{ro:Option Nat}{g:Vt_}{n:Nat}{r:Xr}{a:Zo}(h:HD P ro g w n r a):HD P ro g w n (@Uz Xr ⟨r⟩) a:=h
def Yj(N R:WP)(X:Nat->WP)(p:Option Code):WP:=lP N R X p
section
variable{P:Program}{s:Sem Value}{u:Sem Unit}{n:Sem Next}{k:Value->WP}{c:WP}{w:Wt_}{f:FuncId}{g:Vt_}{a:Array Value}{xs:LV_}{S:Type}{A:(S->WP)->WP}{B:S->WP}{i:Nat}{ds:List Nat}{N R:WP}{X:Nat->WP}{p:Option Code}{ro:Option Nat}{m:Nat}{rnd:Nat->List Value->WP->(Code->WP)->WP}{q:List Nat->Option Code->WP}{body:S->(S->WP)->WP}{st:S}
def ab5:Vw P s k w=rv P s w λv w=>k v w:=rfl
def af1:Xw P s k w=rx P s w λv w=>k v w:=rfl
def ah9:Nw P n k w=rn P n w λv w=>k v w:=rfl
def ad5:Uw P u c w=ru P u w λw=>c w:=rfl
def af7:Yw P u c w=DD P u w λw=>c w:=rfl
def ab8:Cw P f a k w=Ca P f a w λv w=>k v w:=rfl
def ah7:Wy P f xs k w=rnx P f xs w λv w=>k v w:=rfl
def ZD:Fw P g xs k w=om P g xs w λv w=>k v w:=rfl
def ZN:Jw A B w=Ml (λJ=>A J w) (λs w=>B s w):=rfl
def ab4:Gw i c w=qr i w λw=>c w:=rfl
def ah4:Tw ds c w=Ao ds w λw=>c w:=rfl
def ag0:Yj N R X p w=lP (λw=>N w) (λw=>R w) (λi w=>X i w) p w:=rfl
def ZH:Rw P ro g m rnd q w=WO P ro g w m (λl x w b e=>rnd l x b e w) (λd p w=>q d p w):=rfl
def ai8:Lw body st w=KQ (λs w k=>body s k w) st w:=rfl
end
structure am7 where
 P:Program
 B:Nat
 S:Nat
 N:Nat
 rs:List ResultVar
 K:Value->WP
def di(c:am7):Nat->Option Nat->Job->List It->El->Om->WP
 |0,_,_,_,_,_=>uo
 |n+1,ro,.s,[],l,none=>di c n ro (.re c.rs []) [] l none
 |n+1,ro,.s,[],l,some d=>Tw d (di c n ro (.re c.rs []) [] l none)
 |n+1,ro,.s,.c x::st,l,ds=>di c n ro (.c x) st l ds
 |n+1,ro,.s,.b _::st,l,ds=>di c n ro .s st l ds
 |n+1,ro,.s,.e k::_,l,ds=>k l ds
 |n+1,ro,.s,.k a _::_,l,ds=>a
 |n+1,ro,.s,.a i x p q::_,l,ds=>Gw i (di c n ro (.c x) [.k p q] l none)
 |n+1,ro,.r,[],l,ds=>di c n ro .s [] l ds
 |n+1,ro,.r,.c _::st,l,ds=>di c n ro .r st l ds
 |n+1,ro,.r,.b _::st,l,ds=>di c n ro .r st l ds
 |n+1,ro,.r,.e _::st,l,ds=>di c n ro .r st l ds
 |n+1,ro,.r,.k _ b::_,l,ds=>b .ret
 |n+1,ro,.r,.a _ _ _ _::_,l,ds=>uo
 |n+1,ro,.x i,[],l,ds=>uo
 |n+1,ro,.x i,.c _::st,l,ds=>di c n ro (.x i) st l ds
 |n+1,ro,.x i,.b j::st,l,ds=>di c n ro (.xb (i==j) i) st l ds
 |n+1,ro,.x i,.e _::st,l,ds=>di c n ro (.x i) st l ds
 |n+1,ro,.x i,.k _ b::_,l,ds=>b (.exit i)
 |n+1,ro,.x i,.a _ _ _ _::_,l,ds=>uo
 |n+1,ro,.xb true _,st,l,ds=>di c n ro .s st l ds
 |n+1,ro,.xb false i,st,l,ds=>di c n ro (.x i) st l ds
 |n+1,ro,.xv i,[],l,ds=>uo
 |n+1,ro,.xv i,.c _::st,l,ds=>di c n ro (.xv i) st l ds
 |n+1,ro,.xv i,.b j::st,l,ds=>Hw (Nat.beq i j) (di c n ro .s st l ds) (di c n ro (.xv i) st l ds)
 |n+1,ro,.xv i,.e _::st,l,ds=>di c n ro (.xv i) st l ds
 |n+1,ro,.xv i,.k _ b::_,l,ds=>b (.exit i)
 |n+1,ro,.xv i,.a _ _ _ _::_,l,ds=>uo
 |n+1,ro,.c .skip,st,l,ds=>di c n ro .s st l ds
 |n+1,ro,.c (.region _ ops false),st,l,ds=>di c n ro (.l ops.toList ops.toList) st l ds
 |n+1,ro,.c (.region _ ops true),st,l,ds=>Dw (di c n ro (.d ⟨ops.toList,wz c.S ops.toList 1 []⟩ 0 []) st l ds)
 |n+1,ro,.c (.seq a b),st,l,ds=>di c n ro (.j (LV (xA c.S a).n a b) a b) st l ds
 |n+1,ro,.j false a b,st,l,ds=>di c n ro (.c a) (.c b::st) l ds
 |n+1,ro,.j true a b,st,l,ds=>di c n ro (.j1 (Gr l ⟨uM a 0,[]⟩) a b) st l ds
 |n+1,ro,.j1 s a b,st,l,ds=>di c n ro (.j2 (s.m==0) s a b) st l ds
 |n+1,ro,.j2 true s a b,st,l,ds=>di c n ro (.jl s.l a b) st l ds
 |n+1,ro,.j2 false s a b,st,l,ds=>di c n ro (.jl (tW b s).l a b) st l ds
 |n+1,ro,.jl L a b,st,l,ds=>Jw (S:=E3 L) (λJ=>di c n ro (.c a) (.e (λl _=>J (zL l L))::st) l ds) (λs=>Zw (di c n ro (.c b) st (DA L s l) ds))
 |n+1,ro,.c (.cond x a b),st,l,ds=>di c n ro (.i (yq l x) a b) st l ds
 |n+1,ro,.i (.b true) a _,st,l,ds=>di c n ro (.c a) st l ds
 |n+1,ro,.i (.b false) _ b,st,l,ds=>di c n ro (.c b) st l ds
 |n+1,ro,.i (.t v) a b,st,l,ds=>Iw v (di c n ro (.c a) st l ds) (di c n ro (.c b) st l ds)
 |n+1,ro,.i .u _ _,st,l,ds=>uo
 |n+1,ro,.c (.block i x),st,l,ds=>di c n ro (.c x) (.b i::st) l ds
 |n+1,ro,.c (.loop x),st,l,ds=>di c n ro (.lp (uG x) (Gr l ⟨uM x 0,[]⟩).l x) st l ds
 |n+1,ro,.lp false L x,st,l,ds=>Lw (S:=E3 L) (λs k=>Zw (di c n ro (.c x) (.e (λl _=>k (zL l L))::st) (DA L s l) ds)) (zL l L)
 |n+1,ro,.lp true L x,st,l,ds=>Lw (S:=E3 L×List Nat) (λs k=>Zw (di c n ro (.c x) (.e (λl d=>k (zL l L,Jr d))::st) (DA L s.1 l) (some s.2))) (zL l L,Jr ds)
 |n+1,ro,.c (.rangeFunc gv ps a b),st,l,ds=>
  Rw c.P ro (fZ l gv) (TS ps.toList) (λi x p q=>di c n (some i) (.c a) [.a i b p q] (KX ps.toList 0 x l) none)
   (λmk pd=>Yj (di c n ro .s st l (some (mk++Jr ds))) (di c n ro .r st l (some (mk++Jr ds))) (λi=>di c n ro (.xv i) st l (some (mk++Jr ds))) pd)
 |n+1,ro,.c (.exit i),st,l,ds=>di c n ro (.x i) st l ds
 |n+1,ro,.c .ret,st,l,ds=>di c n ro .r st l ds
 |n+1,ro,.c (.label _),st,l,ds=>di c n ro .s st l ds
 |n+1,ro,.c (.scope x),st,l,ds=>di c n ro (.c x) st l ds
 |n+1,ro,.c (.goto _),st,l,ds=>uo
 |n+1,ro,.c (.refuse _),st,l,ds=>uo
 |n+1,ro,.l _ [],st,l,ds=>di c n ro .s st l ds
 |n+1,ro,.l ops (o::r),st,l,ds=>di c n ro (.g .l (Ou ops l o.guard) o (.l ops r)) st l ds
 |n+1,ro,.g _ .n o nx,st,l,ds=>di c n ro nx st (oV o.dst .u l) ds
 |n+1,ro,.g m (.a v s true) o nx,st,l,ds=>Iw v (di c n ro (.g m .y o nx) st ((s,.b true)::l) ds) (di c n ro (.g m .n o nx) st ((s,.b false)::l) ds)
 |n+1,ro,.g m (.a v s false) o nx,st,l,ds=>Iw v (di c n ro (.g m .n o nx) st ((s,.b true)::l) ds) (di c n ro (.g m .y o nx) st ((s,.b false)::l) ds)
 |n+1,ro,.g .l .y o nx,st,l,ds=>di c n ro (.o (Ur c.B c.S c.N l o) 0 o.dst nx) st l ds
 |n+1,ro,.g (.r i) .y o nx,st,l,ds=>di c n ro (.o (Xo c.B c.S l o) i o.dst nx) st l ds
 |n+1,ro,.g .a .y o (.d R dn pd),st,l,ds=>di c n ro (.o (Ur c.B c.S c.N l o) 0 o.dst (.v pd (.d R dn pd))) st l ds
 |n+1,ro,.o (.q s) _ d nx,st,l,ds=>di c n ro nx st (oV d s l) ds
 |n+1,ro,.o (.pk v x y) _ d nx,st,l,ds=>Bw v λb=>di c n ro nx st (oV d (.t (Tb b x y)) l) ds
 |n+1,ro,.o (.nk v) _ d nx,st,l,ds=>Qw v λv=>di c n ro nx st (oV d (.t v) l) ds
 |n+1,ro,.o (.v s) _ d nx,st,l,ds=>Vw c.P s λv=>di c n ro nx st (oV d (.t v) l) ds
 |n+1,ro,.o (.x s) _ d nx,st,l,ds=>Xw c.P s λv=>di c n ro nx st (oV d (.t v) l) ds
 |n+1,ro,.o (.n s) _ d nx,st,l,ds=>Nw c.P s λv=>di c n ro nx st (oV d (.t v) l) ds
 |n+1,ro,.o (.c f a) _ d nx,st,l,ds=>Cw c.P f a.toArray λv=>di c n ro nx st (oV d (.t v) l) ds
 |n+1,ro,.o (.rn f a) _ d nx,st,l,ds=>Wy c.P f a λv=>di c n ro nx st (oV d (.t v) l) ds
 |n+1,ro,.o (.f g a) _ d nx,st,l,ds=>Fw c.P g a λv=>di c n ro nx st (oV d (.t v) l) ds
 |n+1,ro,.o (.u s) _ d nx,st,l,ds=>Uw c.P s (di c n ro nx st (oV d (.t undef) l) ds)
 |n+1,ro,.o (.y s) _ d nx,st,l,ds=>Yw c.P s (di c n ro nx st (oV d (.t undef) l) ds)
 |n+1,ro,.o (.p s) _ d nx,st,l,ds=>Pw c.P s λv=>di c n ro nx st (oV d (.t v) l) ds
 |n+1,ro,.o (.px s) _ d nx,st,l,ds=>PXw c.P s λv=>di c n ro nx st (oV d (.t v) l) ds
 |n+1,ro,.o (.w s) i d (.d R dn pd),st,l,ds=>Ww c.P s λv=>di c n ro (.d R dn ((i,s,v)::pd)) st (oV d (.t v) l) ds
 |n+1,ro,.o (.wx s) i d (.d R dn pd),st,l,ds=>VI c.P s λv=>di c n ro (.d R dn ((i,s,v)::pd)) st (oV d (.t v) l) ds
 |n+1,ro,.v [] nx,st,l,ds=>di c n ro nx st l ds
 |n+1,ro,.v ((_,s,v)::r) nx,st,l,ds=>Ew c.P s v (di c n ro (.v r nx) st l ds)
 |n+1,ro,.d R dn pd,st,l,ds=>di c n ro (.f (LF false none R.es dn) R dn pd) st l ds
 |n+1,ro,.f (some e) R dn pd,st,l,ds=>di c n ro (.g (.r e.i) (Ou R.ops l e.o.guard) e.o (.d R (dn|||e.i) pd)) st l ds
 |n+1,ro,.f none R dn pd,st,l,ds=>di c n ro (.e (Lk dn R.es) R dn pd) st l ds
 |n+1,ro,.e [] _ _ _,st,l,ds=>di c n ro .s st l ds
 |n+1,ro,.e [e] R dn pd,st,l,ds=>di c n ro (.g .a (Ou R.ops l e.o.guard) e.o (.d R (dn|||e.i) (PH e.am pd))) st l ds
 |n+1,ro,.e (e::e' ::r) R dn pd,st,l,ds=>Aw (di c n ro (.g .a (Ou R.ops l e.o.guard) e.o (.d R (dn|||e.i) (PH e.am pd))) st l ds) (di c n ro (.e (e' ::r) R dn pd) st l ds)
 |n+1,ro,.re [] vs,st,l,ds=>c.K (Sn vs)
 |n+1,ro,.re (.tmp t::r) vs,st,l,ds=>di c n ro (.re r (OS vs (zO false .u l t).v)) st l ds
 |n+1,ro,.re (.cell a t::r) vs,st,l,ds=>di c n ro (.rb (uB c.B t) (zO false .u l a).v t r vs) st l ds
 |n+1,ro,.rb true a t r vs,st,l,ds=>VI c.P (pp t a) λv=>di c n ro (.re r (OS vs v)) st l ds
 |n+1,ro,.rb false a t r vs,st,l,ds=>Ww c.P (iL t a) λv=>di c n ro (.re r (OS vs v)) st l ds
 |_,_,_,_,_,_=>uo
end Go.Vc
namespace Go.Proofs
open Go Go.Vc
def sN{f:FuncId}{fn:Func}{c:Code}{rs:List ResultVar}{xs:LV_}{L:List As}{K:Value->WP}{H:WP}(a:Tryz.prog.funcs[f]? =some fn)(g:Gs L H)
  (d:fn.body=some c:=by exact rfl)(b:fn.results=rs.toArray:=by exact rfl)
  (h:di ⟨pQ,780437137578998057924726023706815346392291355056326472503586265656282906575705396088125373220878390705057303521779571044483880558217456403873792,23258839177462064731698047172789743042292416494722069412913746125091720897538415800766588902435989027179623079782544797699072901876023296,2644218831704220047948482867069845968386646895354151059412496192997585723836232780021561882989311081045811144364680764456963,rs,K⟩ 100000 none (.c c) [] (HW 0 xs) none=H:=by
   dsimp only[di,Sy.v,X9,zO,yq,fZ,pf,zm,E0,TC,oV,HW,zL,DA,KX,Jr,TS,Sn,uB,LU,Ox,NX,ui,BH,MD,Ur,Sq,Xo,Ma,SV,Ta,S2,Ou,Xy,xT,HB,wz,LF,JG,Lk,Qf,PH,R3,UT,uG,Fo,Fm,J4,Kl,Mj,Ro,X1,SC,DE,HC,Il,KV,LV,Qm,XX,Y0,XW,xA,PT,KG,uM,KS,Gr,oY,yS,EY,Df,Pp,KH,tW,E3,FK,Nat.reduceMul,Nat.reduceAdd,Nat.reducePow,Nat.reduceAnd,Nat.reduceOr,Nat.reduceShiftRight,Nat.reduceMod,Nat.reduceDiv,Nat.reduceBEq,Nat.reduceSub,OS,List.cons_append,List.nil_append,Yj])
  (ok:okF pQ fn xs.length=true:=by kernel_rfl)(e:∀w,Ri pQ fn xs w K=H w:=by intro w;kernel_rfl):Gs L (Cw pQ f xs.toArray K):=
 Gs.ca (λw x=>Ef Tryz.noNum a ok (by rw[e];exact x)) g
def cN{f:FuncId}{fn:Func}{c:Code}{rs:List ResultVar}{xs:LV_}{w:Wt_}{K:be}{a H:Prop}(b:Tryz.prog.funcs[f]? =some fn)(g:H)
  (i:fn.body=some c:=by exact rfl)(h:fn.results=rs.toArray:=by exact rfl)
  (j:di ⟨pQ,780437137578998057924726023706815346392291355056326472503586265656282906575705396088125373220878390705057303521779571044483880558217456403873792,23258839177462064731698047172789743042292416494722069412913746125091720897538415800766588902435989027179623079782544797699072901876023296,2644218831704220047948482867069845968386646895354151059412496192997585723836232780021561882989311081045811144364680764456963,rs,K⟩ 100000 none (.c c) [] (HW 0 xs) none w=a:=by
   dsimp only[di,Sy.v,X9,zO,yq,fZ,pf,zm,E0,TC,oV,HW,zL,DA,KX,Jr,TS,Sn,uB,LU,Ox,NX,ui,BH,MD,Ur,Sq,Xo,Ma,SV,Ta,S2,Ou,Xy,xT,HB,wz,LF,JG,Lk,Qf,PH,R3,UT,uG,Fo,Fm,J4,Kl,Mj,Ro,X1,SC,DE,HC,Il,KV,LV,Qm,XX,Y0,XW,xA,PT,KG,uM,KS,Gr,oY,yS,EY,Df,Pp,KH,tW,E3,FK,Nat.reduceMul,Nat.reduceAdd,Nat.reducePow,Nat.reduceAnd,Nat.reduceOr,Nat.reduceShiftRight,Nat.reduceMod,Nat.reduceDiv,Nat.reduceBEq,Nat.reduceSub,OS,List.cons_append,List.nil_append,ab5,ad5,af1,af7,ah9,Pw,Ww,PXw,VI,Ew,Dw,Aw,Iw,Bw,Qw,ab8,ZD,ZN,Zw,Hw,ab4,ah4,ZH,ai8,ah7,ag0,uo])
  (d:a=H:=by first|dsimp only[Rb,SS,YI]|exact rfl)
  (ok:okF pQ fn xs.length=true:=by kernel_rfl)(e:Ri pQ fn xs w K=H:=by kernel_rfl):Ca pQ f xs.toArray w K:=
 Ef Tryz.noNum b ok (by rw[e];exact g)
end Go.Proofs
namespace Go.Proofs
open Go Go.Vc
def SN(K:be)(s116:Value×Value×Unit)(K118:Value×Value×Unit->World->Prop)(s128:Value×Unit)(w129:Wt_):Prop:=
 ∀_:Nat->Value,
 xe s128.1
 (K (gI 6) w129)
 (rv pQ (nV .add 3 true s116.2.1 (gI 1)) w129 λv147 w148=>
 K118 (s116.1,v147,()) w148)
def QC(v72:Vt_)(v0:Vt_)(K:be)(s75:Unit)(w76:Wt_):Prop:=
 ∀_:Nat->Value,
 rv pQ (iL 130 v72) w76 λv95 w96=>
 ru pQ (iS 130 v0 v95) w96 λw97=>
 rV pQ (iL 130 v0) w97 λv98=>
 K (.tuple #[v98,(gI 0)]) w97
def SX(s51:Value×Value×Unit)(v24:Vt_)(J50:Value×Value×Unit->World->Prop)(K53:Value×Value×Unit->World->Prop)(s54:Value×Unit)(w55:Wt_):Prop:=
 ∀_:Nat->Value,
 xe s54.1
 (rv pQ (nV .sub 37 true s51.1 (gQ 1)) w55 λv67 w68=>
 rv pQ (nV .add 37 false s51.2.1 v24) w68 λv69 w70=>
 rv pQ (nV .geq 37 true v69 (gQ 4294967296)) w70 λv71 w72=>
 xe v71
 (J50 (v67,v69,()) w72)
 (K53 (v67,v69,()) w72))
 (J50 (s51.1,s51.2.1,()) w55)
def RX(s90:Value×Value×Unit)(v24:Vt_)(J89:Value×Value×Unit->World->Prop)(K92:Value×Value×Unit->World->Prop)(s93:Value×Unit)(w94:Wt_):Prop:=
 ∀_:Nat->Value,
 xe s93.1
 (rv pQ (nV .sub 37 true s90.1 (gQ 1)) w94 λv106 w107=>
 rv pQ (nV .add 37 false s90.2.1 v24) w107 λv108 w109=>
 rv pQ (nV .geq 37 true v108 (gQ 4294967296)) w109 λv110 w111=>
 xe v110
 (J89 (v106,v108,()) w111)
 (K92 (v106,v108,()) w111))
 (J89 (s90.1,s90.2.1,()) w94)
def Qv(v26:Vt_)(v38:Vt_)(v24:Vt_)(J50:Value×Value×Unit->World->Prop)(s51:Value×Value×Unit)(w52:Wt_)(K53:Value×Value×Unit->World->Prop):Prop:=
 ∀_:Nat->Value,
 dU (S:=Value×Unit) (λJ56=>
 rv pQ (nV .geq 37 true s51.1 (gQ 4294967296)) w52 λv57 w58=>
 xe v57
 (J56 ((.bool true),()) w58)
 (rv pQ (nV .mul 37 false s51.1 v26) w58 λv59 w60=>
 rv pQ (nV .mul 37 true (gQ 4294967296) s51.2.1) w60 λv61 w62=>
 rv pQ (nV .add 37 false v61 v38) w62 λv63 w64=>
 rv pQ (nV .gtr 37 false v59 v63) w64 λv65 w66=>
 J56 (v65,()) w66))
 (SX s51 v24 J50 K53)
def QG(v26:Vt_)(v40:Vt_)(v24:Vt_)(J89:Value×Value×Unit->World->Prop)(s90:Value×Value×Unit)(w91:Wt_)(K92:Value×Value×Unit->World->Prop):Prop:=
 ∀_:Nat->Value,
 dU (S:=Value×Unit) (λJ95=>
 rv pQ (nV .geq 37 true s90.1 (gQ 4294967296)) w91 λv96 w97=>
 xe v96
 (J95 ((.bool true),()) w97)
 (rv pQ (nV .mul 37 false s90.1 v26) w97 λv98 w99=>
 rv pQ (nV .mul 37 true (gQ 4294967296) s90.2.1) w99 λv100 w101=>
 rv pQ (nV .add 37 false v100 v40) w101 λv102 w103=>
 rv pQ (nV .gtr 37 false v98 v102) w103 λv104 w105=>
 J95 (v104,()) w105))
 (RX s90 v24 J89 K92)
def Tf(v19:Vt_)(v55:Vt_)(J59:Unit->World->Prop)(s74:Value×Unit)(w75:Wt_):Prop:=
 ∀_:Nat->Value,
 xe s74.1
 (rv pQ (iF 412 v19 0) w75 λv99 w100=>
 rv pQ (iF 48 v99 7) w100 λv101 w102=>
 rv pQ (iL 2 v101) w102 λv103 w104=>
 qC v55 λv105=>rv pQ (iF 477 v105 3) w104 λv106 w107=>
 ru pQ (iS 2 v106 v103) w107 λw108=>
 J59 (()) w108)
 (J59 (()) w75)
def SY(v55:Vt_)(v19:Vt_)(s10:Value×Value×Value×Unit)(K12:Value×Value×Value×Unit->World->Prop)(s57:Unit)(w58:Wt_):Prop:=
 ∀_:Nat->Value,
 qC v55 λv109=>qM pQ (iF 477 v109 1) λv110=>
 rV pQ (iL 2 v110) w58.drew λv111=>
 qM pQ (iF 412 v19 1) λv112=>
 rV pQ (iL 2 v112) w58.drew λv113=>
 rV pQ (Builtin.max_ #[2,2] 2 #[v113,(gI 0)]) w58.drew λv114=>
 qM pQ (nV .add 2 false v111 v114) λv115=>
 qC v55 λv116=>qM pQ (iF 477 v116 1) λv117=>
 ru pQ (iS 2 v117 v115) w58.drew λw118=>
 qC v55 λv119=>qM pQ (iF 477 v119 2) λv120=>
 rV pQ (iL 2 v120) w118.drew λv121=>
 qM pQ (iF 412 v19 1) λv122=>
 rV pQ (iL 2 v122) w118.drew λv123=>
 qM pQ (Op.unary .neg v123) λv124=>
 rV pQ (Builtin.max_ #[2,2] 2 #[v124,(gI 0)]) w118.drew λv125=>
 qM pQ (nV .add 2 false v121 v125) λv126=>
 qC v55 λv127=>qM pQ (iF 477 v127 2) λv128=>
 ru pQ (iS 2 v128 v126) w118.drew λw129=>
 rv pQ (nV .add 3 true s10.2.2.1 (gI 1)) w129 λv130 w131=>
 K12 (s10.1,s10.2.1,v130,()) w131
def S6(K:be)(v19:Vt_)(s10:Value×Value×Value×Unit)(K12:Value×Value×Value×Unit->World->Prop)(v4:Vt_)(s22:Value×Unit)(w23:Wt_):Prop:=
 ∀_:Nat->Value,
 xe s22.1
 (K (.tuple #[(gI 0),(gI 2)]) w23)
 (rv pQ (iF 412 v19 1) w23 λv41 w42=>
 rv pQ (iL 2 v41) w42 λv43 w44=>
 rv pQ (nV .eql 2 true v43 (gI 0)) w44 λv45 w46=>
 xe v45
 (rv pQ (nV .add 3 true s10.2.2.1 (gI 1)) w46 λv47 w48=>
 K12 (s10.1,s10.2.1,v47,()) w48)
 (rv pQ (iF 412 v19 0) w46 λv49 w50=>
 rv pQ (iF 48 v49 1) w50 λv51 w52=>
 rv pQ (iL 5 v51) w52 λv53 w54=>
 rv pQ (iX 478 v4 v53) w54 λv55 w56=>
 dU (S:=Unit) (λJ59=>
 qC v55 λv60=>qM pQ (iF 477 v60 0) λv61=>
 rV pQ (iL 2 v61) w56.drew λv62=>
 qM pQ (iF 412 v19 0) λv63=>
 qM pQ (iF 48 v63 6) λv64=>
 IG pQ (pp 46 v64) w56.drew λv65=>
 qM pQ (iF 412 v19 1) λv66=>
 rV pQ (iL 2 v66) w56.drew λv67=>
 Ca pQ 373 #[v65,v67] w56.drew λv68 w69=>
 Sem.run pQ (iL 2 v61) w69=.ok v62 w69/\
 (qM pQ (nV .add 2 false v62 v68) λv70=>
 qC v55 λv71=>qM pQ (iF 477 v71 0) λv72=>
 ru pQ (iS 2 v72 v70) w69 λw73=>
 dU (S:=Value×Unit) (λJ76=>
 qC v55 λv77=>qM pQ (iF 477 v77 1) λv78=>
 rV pQ (iL 2 v78) w73.drew λv79=>
 qM pQ (nV .eql 2 true v79 (gI 0)) λv80=>
 xe v80
 (qC v55 λv81=>qM pQ (iF 477 v81 2) λv82=>
 rV pQ (iL 2 v82) w73.drew λv83=>
 qM pQ (nV .eql 2 true v83 (gI 0)) λv84=>
 xe v84
 (J76 ((.bool true),()) w73.drew)
 (qM pQ (iF 412 v19 0) λv85=>
 qM pQ (iF 48 v85 7) λv86=>
 rV pQ (iL 2 v86) w73.drew λv87=>
 qC v55 λv88=>qM pQ (iF 477 v88 3) λv89=>
 rV pQ (iL 2 v89) w73.drew λv90=>
 qM pQ (nV .lss 2 false v87 v90) λv91=>
 J76 (v91,()) w73.drew))
 (qM pQ (iF 412 v19 0) λv92=>
 qM pQ (iF 48 v92 7) λv93=>
 rV pQ (iL 2 v93) w73.drew λv94=>
 qC v55 λv95=>qM pQ (iF 477 v95 3) λv96=>
 rV pQ (iL 2 v96) w73.drew λv97=>
 qM pQ (nV .lss 2 false v94 v97) λv98=>
 J76 (v98,()) w73.drew))
 (Tf v19 v55 J59)))
 (SY v55 v19 s10 K12)))
def UI(v244:Vt_)(v237:Vt_)(v0:Vt_)(v2:Vt_)(a0:Vt_)(v10:Vt_)(mk229:List Nat)(K:Value->WP)(a4:Vt_)(s246:Value×Value×Unit)(K248:Value×Value×Unit->World->Prop):WP:=
 Zw <|
 Vw pQ (nV .lss 3 false s246.2.1 v244) λv249=>
 Iw v249
 (Vw pQ (iX 392 v237 s246.2.1) λv251=>
 Vw pQ (iL 394 v251) λv253=>
 Vw pQ (iA 394 true (.tuple #[])) λv255=>
 Uw pQ (iS 394 v255 v253) <|
 Xw pQ (pp 120 v0) λv258=>
 Vw pQ (iL 45 v2) λv260=>
 Vw pQ (iF 394 v255 0) λv262=>
 Vw pQ (iL 45 v262) λv264=>
 Vw pQ (iF 120 v0 2) λv266=>
 Vw pQ (iL 2 v266) λv268=>
 Vw pQ (iF 394 v255 1) λv270=>
 Vw pQ (iL 2 v270) λv272=>
 Cw pQ 276 #[a0,v258,v260,v264,v10,v268,v272] λv274=>
 Vw pQ (nV .neq 29 true v274 (gI 0)) λv276=>
 Iw v276
 (Tw (mk229++[]) <|
 K v274)
 (Dw <|
 Qw a4 λv279=>Pw pQ (iF 42 v279 3) λv280=>
 Ww pQ (iL 2 v280) λv281=>
 Pw pQ (iF 394 v255 1) λv282=>
 Ww pQ (iL 2 v282) λv283=>
 Pw pQ (nV .add 2 false v281 v283) λv284=>
 Qw a4 λv285=>Pw pQ (iF 42 v285 3) λv286=>
 Uw pQ (iS 2 v286 v284) <|
 Dw <|
 Qw a4 λv288=>Pw pQ (iF 42 v288 4) λv289=>
 Ww pQ (iL 38 v289) λv290=>
 Pw pQ (iF 120 v0 2) λv291=>
 Ww pQ (iL 2 v291) λv292=>
 Pw pQ (iF 394 v255 1) λv293=>
 Ww pQ (iL 2 v293) λv294=>
 Pw pQ (iF 394 v255 0) λv295=>
 Ww pQ (iL 45 v295) λv296=>
 Pw pQ (Instr.build 148 #[(0,v292),(1,v294),(3,v296)]) λv297=>
 Xw pQ (qL 38 1 [(0,v297)]) λv298=>
 Ew pQ (iL 38 v289) v290 <|
 (Xw pQ (ff #[38,38] 38 [v290,v298]) λv300=>
 Qw a4 λv302=>Pw pQ (iF 42 v302 4) λv303=>
 Uw pQ (iS 38 v303 v300) <|
 Vw pQ (nV .add 3 true s246.2.1 (gI 1)) λv305=>
 K248 (s246.1,v305,()))))
 (Tw (mk229++[]) <|
 K (gI 0))
def TE(v323:Vt_)(v316:Vt_)(v0:Vt_)(v2:Vt_)(a0:Vt_)(v10:Vt_)(mk229:List Nat)(K:Value->WP)(a4:Vt_)(s325:Value×Value×Unit)(K327:Value×Value×Unit->World->Prop):WP:=
 Zw <|
 Vw pQ (nV .lss 3 false s325.2.1 v323) λv328=>
 Iw v328
 (Vw pQ (iX 392 v316 s325.2.1) λv330=>
 Vw pQ (iL 394 v330) λv332=>
 Vw pQ (iA 394 true (.tuple #[])) λv334=>
 Uw pQ (iS 394 v334 v332) <|
 Xw pQ (pp 120 v0) λv337=>
 Vw pQ (iL 45 v2) λv339=>
 Vw pQ (iF 394 v334 0) λv341=>
 Vw pQ (iL 45 v341) λv343=>
 Vw pQ (iF 120 v0 2) λv345=>
 Vw pQ (iL 2 v345) λv347=>
 Vw pQ (iF 394 v334 1) λv349=>
 Vw pQ (iL 2 v349) λv351=>
 Cw pQ 276 #[a0,v337,v339,v343,v10,v347,v351] λv353=>
 Vw pQ (nV .neq 29 true v353 (gI 0)) λv355=>
 Iw v355
 (Tw (mk229++[]) <|
 K v353)
 (Dw <|
 Qw a4 λv358=>Pw pQ (iF 42 v358 3) λv359=>
 Ww pQ (iL 2 v359) λv360=>
 Pw pQ (iF 394 v334 1) λv361=>
 Ww pQ (iL 2 v361) λv362=>
 Pw pQ (nV .add 2 false v360 v362) λv363=>
 Qw a4 λv364=>Pw pQ (iF 42 v364 3) λv365=>
 Uw pQ (iS 2 v365 v363) <|
 Dw <|
 Qw a4 λv367=>Pw pQ (iF 42 v367 4) λv368=>
 Ww pQ (iL 38 v368) λv369=>
 Pw pQ (iF 120 v0 2) λv370=>
 Ww pQ (iL 2 v370) λv371=>
 Pw pQ (iF 394 v334 1) λv372=>
 Ww pQ (iL 2 v372) λv373=>
 Pw pQ (iF 394 v334 0) λv374=>
 Ww pQ (iL 45 v374) λv375=>
 Pw pQ (Instr.build 148 #[(0,v371),(1,v373),(3,v375)]) λv376=>
 Xw pQ (qL 38 1 [(0,v376)]) λv377=>
 Ew pQ (iL 38 v368) v369 <|
 (Xw pQ (ff #[38,38] 38 [v369,v377]) λv379=>
 Qw a4 λv381=>Pw pQ (iF 42 v381 4) λv382=>
 Uw pQ (iS 38 v382 v379) <|
 Vw pQ (nV .add 3 true s325.2.1 (gI 1)) λv384=>
 K327 (s325.1,v384,()))))
 (Tw (mk229++[]) <|
 K (gI 0))
def T3(v186:Vt_)(s179:Value×Unit)(K:Value->WP)(v0:Vt_)(v2:Vt_)(a0:Vt_)(v10:Vt_)(a4:Vt_)(s65:Value×Value×Value×Unit)(mk229:List Nat)(pd230:Option Code):WP:=
 lP
 (Vw pQ (iL 392 v186) λv233=>
 Cw pQ 278 #[s179.1,v233] λv235=>
 Vw pQ (Instr.extract v235 0) λv237=>
 Vw pQ (Instr.extract v235 1) λv239=>
 Vw pQ (nV .neq 29 true v239 (gI 0)) λv241=>
 Iw v241
 (Tw (mk229++[]) <|
 K v239)
 (Nw pQ (builtin .len #[392] 3 #[false] #[v237]) λv244=>
 Lw (S:=Value×Value×Unit) (UI v244 v237 v0 v2 a0 v10 mk229 K a4) (s65.1,(gI 0),())))
 (Tw (mk229++[]) <|
 K s65.1)
 (λi311=>
 Hw (Nat.beq i311 4)
 (Vw pQ (iL 392 v186) λv312=>
 Cw pQ 278 #[s179.1,v312] λv314=>
 Vw pQ (Instr.extract v314 0) λv316=>
 Vw pQ (Instr.extract v314 1) λv318=>
 Vw pQ (nV .neq 29 true v318 (gI 0)) λv320=>
 Iw v320
 (Tw (mk229++[]) <|
 K v318)
 (Nw pQ (builtin .len #[392] 3 #[false] #[v316]) λv323=>
 Lw (S:=Value×Value×Unit) (TE v323 v316 v0 v2 a0 v10 mk229 K a4) (s65.1,(gI 0),())))
 ((λ_=>False))) pd230
def Vy(v2:Vt_)(v186:Vt_)(l195:Nat)(x196:LV_)(KN198:World->Prop)(KJ199:Code->World->Prop):WP:=
 Vw pQ (iA 124 true (.tuple #[])) λv200=>
 Uw pQ (iS 124 v200 (x196.getD 0 undef)) <|
 Gw l195 <|
 Vw pQ (iF 124 v200 1) λv204=>
 Vw pQ (iL 45 v204) λv206=>
 Vw pQ (iL 45 v2) λv208=>
 Vw pQ (nV .neq 45 false v206 v208) λv210=>
 Iw v210
 (Vw pQ (iL 392 v186) λv212=>
 Vw pQ (iF 124 v200 1) λv214=>
 Vw pQ (iL 45 v214) λv216=>
 Vw pQ (iF 124 v200 2) λv218=>
 Vw pQ (iL 2 v218) λv220=>
 Vw pQ (Instr.build 394 #[(0,v216),(1,v220)]) λv222=>
 Xw pQ (qL 392 1 [(0,v222)]) λv224=>
 Xw pQ (ff #[392,392] 392 [v212,v224]) λv226=>
 Uw pQ (iS 392 v186 v226) <|
 KN198)
 (KN198)
def Mc(a0:Vt_)(v8:Vt_)(v2:Vt_)(K:Value->WP)(v0:Vt_)(v10:Vt_)(a4:Vt_)(s65:Value×Value×Value×Unit)(s179:Value×Unit):WP:=
 Zw <|
 Vw pQ (iA 392 true (.tuple #[])) λv186=>
 Qw a0 λv188=>Vw pQ (iF 93 v188 1) λv189=>
 Vw pQ (iL 88 v189) λv191=>
 Cw pQ 60 #[v191,v8] λv193=>
 Rw pQ none v193 1 (Vy v2 v186) (T3 v186 s179 K v0 v2 a0 v10 a4 s65)
def TA(v63:Vt_)(v57:Vt_)(v0:Vt_)(v2:Vt_)(a0:Vt_)(v10:Vt_)(v55:Vt_)(K:Value->WP)(a4:Vt_)(v8:Vt_)(s65:Value×Value×Value×Unit)(K67:Value×Value×Value×Unit->World->Prop):WP:=
 Zw <|
 Vw pQ (nV .lss 3 false s65.2.2.1 v63) λv68=>
 Iw v68
 (Vw pQ (iX 386 v57 s65.2.2.1) λv70=>
 Vw pQ (iL 390 v70) λv72=>
 Vw pQ (iA 390 true (.tuple #[])) λv74=>
 Uw pQ (iS 390 v74 v72) <|
 Xw pQ (pp 120 v0) λv77=>
 Vw pQ (iL 45 v2) λv79=>
 Vw pQ (iF 390 v74 1) λv81=>
 Vw pQ (iL 45 v81) λv83=>
 Vw pQ (iF 390 v74 2) λv85=>
 Vw pQ (iL 2 v85) λv87=>
 Cw pQ 276 #[a0,v77,v79,v83,v10,v55,v87] λv89=>
 Vw pQ (nV .neq 29 true v89 (gI 0)) λv91=>
 Iw v91
 (K v89)
 (Vw pQ (iF 390 v74 2) λv93=>
 Vw pQ (iL 2 v93) λv95=>
 Vw pQ (nV .sub 2 false s65.2.1 v95) λv97=>
 Dw <|
 Qw a4 λv99=>Pw pQ (iF 42 v99 2) λv100=>
 Ww pQ (iL 2 v100) λv101=>
 Pw pQ (iF 390 v74 2) λv102=>
 Ww pQ (iL 2 v102) λv103=>
 Pw pQ (nV .add 2 false v101 v103) λv104=>
 Qw a4 λv105=>Pw pQ (iF 42 v105 2) λv106=>
 Uw pQ (iS 2 v106 v104) <|
 Dw <|
 Qw a4 λv108=>Pw pQ (iF 42 v108 4) λv109=>
 Ww pQ (iL 38 v109) λv110=>
 Pw pQ (iF 390 v74 2) λv111=>
 Ww pQ (iL 2 v111) λv112=>
 Pw pQ (iF 390 v74 0) λv113=>
 Ww pQ (iL 37 v113) λv114=>
 Pw pQ (iF 390 v74 1) λv115=>
 Ww pQ (iL 45 v115) λv116=>
 Pw pQ (Instr.build 148 #[(0,v55),(1,v112),(2,v114),(3,v116)]) λv117=>
 Xw pQ (qL 38 1 [(0,v117)]) λv118=>
 Ew pQ (iL 38 v109) v110 <|
 (Xw pQ (ff #[38,38] 38 [v110,v118]) λv120=>
 Qw a4 λv122=>Pw pQ (iF 42 v122 4) λv123=>
 Uw pQ (iS 38 v123 v120) <|
 Qw a0 λv125=>Vw pQ (iF 93 v125 3) λv126=>
 Vw pQ (iL 91 v126) λv128=>
 Xw pQ (jF 91 v128 v8 false) λv130=>
 Cw pQ 213 #[v130,(.func (.func 277) #[] #[v74])] λv132=>
 Dw <|
 Qw a0 λv134=>Pw pQ (iF 93 v134 3) λv135=>
 Ww pQ (iL 91 v135) λv136=>
 VI pQ (jF 91 v136 v8 false) λv137=>
 Pw pQ (iX 146 v137 v132) λv138=>
 Pw pQ (iF 130 v138 4) λv139=>
 Ww pQ (iL 2 v139) λv140=>
 Pw pQ (iF 390 v74 2) λv141=>
 Ww pQ (iL 2 v141) λv142=>
 Pw pQ (nV .sub 2 false v140 v142) λv143=>
 Pw pQ (iX 146 v137 v132) λv144=>
 Pw pQ (iF 130 v144 4) λv145=>
 Uw pQ (iS 2 v145 v143) <|
 Qw a0 λv147=>Vw pQ (iF 93 v147 3) λv148=>
 Vw pQ (iL 91 v148) λv150=>
 Xw pQ (jF 91 v150 v8 false) λv152=>
 Vw pQ (iX 146 v152 v132) λv154=>
 Vw pQ (iF 130 v154 4) λv156=>
 Vw pQ (iL 2 v156) λv158=>
 Vw pQ (nV .eql 2 true v158 (gI 0)) λv160=>
 Iw v160
 (Dw <|
 Qw a0 λv162=>Pw pQ (iF 93 v162 3) λv163=>
 Ww pQ (iL 91 v163) λv164=>
 Qw a0 λv165=>Pw pQ (iF 93 v165 3) λv166=>
 Ww pQ (iL 91 v166) λv167=>
 VI pQ (jF 91 v167 v8 false) λv168=>
 Pw pQ (nV .add 3 true v132 (gI 1)) λv169=>
 Cw pQ 215 #[v168,v132,v169] λv170=>
 Ew pQ (iL 91 v163) v164 <|
 (Yw pQ (rP 91 v164 v8 v170) <|
 Vw pQ (nV .add 3 true s65.2.2.1 (gI 1)) λv173=>
 K67 (s65.1,v97,v173,())))
 (Vw pQ (nV .add 3 true s65.2.2.1 (gI 1)) λv175=>
 K67 (s65.1,v97,v175,())))))
 (Vw pQ (nV .eql 2 true s65.2.1 (gI 0)) λv177=>
 Iw v177
 (K (gI 0))
 (Jw (S:=Value×Unit) (λJ181=>
 Vw pQ (Op.unary .not v10) λv182=>
 Iw v182
 (Vw pQ (Op.unary .neg s65.2.1) λv184=>
 J181 (v184,()))
 (J181 (s65.2.1,())))
 (Mc a0 v8 v2 K v0 v10 a4 s65)))
def WV(a0:Vt_)(K:be)(v6:Vt_)(v4:Vt_)(s10:Value×Unit)(w11:Wt_):Prop:=
 ∀_:Nat->Value,
 rv pQ (nV .neq 29 true s10.1 (gI 0)) w11 λv20 w21=>
 xe v20
 (qC a0 λv22=>rv pQ (iF 260 v22 2) w21 λv23 w24=>
 ru pQ (iS 29 v23 s10.1) w24 λw25=>
 K (gQ 0) w25)
 (qC a0 λv26=>rv pQ (iF 260 v26 1) w21 λv27 w28=>
 ru pQ (iS 3 v27 v6) w28 λw29=>
 K v4 w29)
end Go.Proofs
namespace Go.Vc
open Go Go.Vc
variable {L:List As}{w:Wt_}
def pt(b:Nat)(cs:LV_)(T:TypeId):As:=
 ⟨λw F=>hp w b=some (.cells cs.toArray T (0,0))/\∀x,F x↔x=b,λh hb=>by rw[(h.2 _).1 hb];exact aJ h.1,λh m hg=>⟨m.keep h.1 (hg b ((h.2 b).2 rfl)),h.2⟩⟩
def nW{b:Nat}{cs:LV_}{T:TypeId}{M:List As}(k:bL L (pt b cs T::M))(h:Ss w L):hp w b=some (.cells cs.toArray T (0,0)):=by
 obtain⟨F,x⟩:=h;obtain⟨c,d,a,-⟩:=(k.out w F).1 x;exact a.1
def Ss.upd{A B:As}{w' :Wt_}(h:Ss w (A::L))(k:∀F,A.P w F->∃c,B.P w' c/\bn F w w' /\∀b,c b->F b\/w.heap.size<=b):Ss w' (B::L):=by
 obtain⟨l,g,j,e,f⟩:=Ss.cons.1 h;obtain⟨c,k1,k2,k3⟩:=k l j;refine Ss.cons.2 ⟨c,g,k1,e.md k2 λb a d=>f b d a,λb a d=>?_⟩;rcases k3 b a with a|a
 ·exact f b a d
 ·have:=e.lt d;omega
def Ss.new{B:As}{w' :Wt_}(h:Ss w L)(m:M0 w w'){F' :NP_}(k:B.P w' F')(n:∀b,F' b->w.heap.size<=b):Ss w' (B::L):=by
 obtain⟨F,x⟩:=h;refine Ss.cons.2 ⟨F',F,k,x.md m eI,λb a c=>?_⟩;have:=x.lt c;have:=n b a;omega
section
variable{P:Program}{L M:List As}{b i:Nat}{cs cs' :LV_}{T t:TypeId}{v x:Vt_}{k:Value->WP}{k0:WP}{s:Sem Value}
def Gs.ld(a:bL L (pt b cs T::M))(h:∀w,hp w b=some (.cells cs.toArray T (0,0))->(iL t (cU b i)).run P w=.ok v w)(c:Gs L (k v)):Gs L (Vw P (iL t (cU b i)) k):=
 Gs.V (λw x=>h w (nW a x)) c
def Gs.ldW(a:bL L (pt b cs T::M))(h:∀w,hp w b=some (.cells cs.toArray T (0,0))->(iL t (cU b i)).run P w=.ok v w)(c:Gs L (k v)):Gs L (Ww P (iL t (cU b i)) k):=
 Gs.W (λw x=>h w (nW a x)) c
def Gs.ldE(a:bL L (pt b cs T::M))(h:∀w,hp w b=some (.cells cs.toArray T (0,0))->(iL t (cU b i)).run P w=.ok v w)(c:Gs L k0):Gs L (Ew P (iL t (cU b i)) v k0):=
 Gs.E (λw x=>h w (nW a x)) c
def Uu{w:Wt_}(h:hp w b=some (.cells cs.toArray T (0,0)))(e:cs.set i x=cs'):hp (w.setCell ⟨b,i,none⟩ x) b=some (.cells cs'.toArray T (0,0))/\bn (λy=>y=b) w (w.setCell ⟨b,i,none⟩ x):=by
 refine⟨?_,(bn.refl (λy=>y=b) w).setCell (.inl rfl) _ _⟩;rw[Bg,ab rfl,h,iN,<-e];simp
def Gs.al(h:∀w,s.run P w=.ok (cU w.heap.size 0) (w.alloc (.cells cs.toArray T)))(a:∀b,Gs (pt b cs T::L) (k (cU b 0))):Gs L (Vw P s k):=⟨λw y=>by
 refine dy (h w) ((a _).go _ (y.new ((bn.refl _ w).alloc _) (F' :=λx=>x=w.heap.size) ⟨?_,λ_=>aI⟩ λx c=>qZ));rw[uS,ab rfl]⟩
def Gs.call{A:As}{f:FuncId}{a:Array Value}{α:Type}{val:α->Value}{p:α->Prop}{B:α->As}(h:bL L (A::M))
  (d:∀w F,A.P w F->∀K:be,(∀x e g,p x->(B x).P e g->bn F w e->(∀y,g y->F y\/w.heap.size<=y)->K (val x) e)->Ca P f a w K)(o:∀x,p x->Gs (B x::M) (k (val x))):Gs L (Cw P f a k):=⟨λw y=>by
 obtain⟨F,z⟩:=y;have u:Ss w (A::M):=⟨F,(h.out w F).1 z⟩
 obtain⟨r,n,q,j,l⟩:=Ss.cons.1 u;refine d w r q k λx e g hp D m C=>(o x hp).go e (Ss.cons.2 ⟨g,n,D,j.md m λb c d=>l b d c,λb c d=>?_⟩);rcases C b c with c|c
 ·exact l b c d
 ·have:=j.lt d;omega⟩
def Gs.al0(h:∀w,(iA T true (.tuple #[])).run P w=.ok (cU w.heap.size 0) (w.alloc (.cells cs.toArray T)))(a:∀b,Gs (pt b cs T::L) (k (cU b 0))):Gs L (Vw P (iA T true (.tuple #[])) k):=Gs.al h a
def Gs.bx(h:∀w,(Instr.box T x).run P w=.ok (cU w.heap.size 0) (w.alloc (.cells cs.toArray T)))(a:∀b,Gs (pt b cs T::L) (k (cU b 0))):Gs L (Vw P (Instr.box T x) k):=Gs.al h a
def Gs.stG{u:Sem Unit}(c:bL L (pt b cs T::M))(h:∀w,hp w b=some (.cells cs.toArray T (0,0))->∃a,u.run P w=.ok () a/\hp a b=some (.cells cs'.toArray T (0,0))/\bn (λy=>y=b) w a)
  (f:Gs (pt b cs' T::M) k0):Gs L (Uw P u k0):=⟨λw y=>by
 obtain⟨F,z⟩:=y;have n:Ss w (pt b cs T::M):=⟨F,(c.out w F).1 z⟩
 obtain⟨a,l,j,m⟩:=h w (nW c ⟨F,z⟩);refine lO l (f.go a (n.upd λg e=>⟨g,⟨j,e.2⟩,m.mono λy _ d=>(e.2 y).2 d,λy d=>.inl d⟩))⟩
def Gs.st(a:bL L (pt b cs T::M))(h:∀w,hp w b=some (.cells cs.toArray T (0,0))->(iS t (cU b i) x).run P w=.ok () (w.setCell ⟨b,i,none⟩ x))(e:cs.set i x=cs')
  (c:Gs (pt b cs' T::M) k0):Gs L (Uw P (iS t (cU b i) x) k0):=Gs.stG a (λw y=>⟨_,h w y,Uu y e⟩) c
def Cl{n:Nat}{xs:LV_}{w:Wt_}(hl:xs.length=n+1)(f:P.cellsOf t=n+1)(d:i+xs.length<=cs.length)(c:xs.all (·.oneCell')=true)(e:ji cs i xs=cs')(h:hp w b=some (.cells cs.toArray T (0,0))):
  ∃a,(ur t (cU b i) (.agg xs.toArray)).run P w=.ok () a/\hp a b=some (.cells cs'.toArray T (0,0))/\bn (λy=>y=b) w a:=by
 have r:=xI (P:=P) (w:=w) (b:=b) (off:=i) f hl h (by simpa using d) c;refine⟨_,r,?_,(bn.refl (λy=>y=b) w).setRow (.inl rfl) _⟩;rw[NR,ab rfl,h,<-e]
def Gs.sta{n:Nat}{xs:LV_}(a:bL L (pt b cs T::M))(hl:xs.length=n+1)(d:P.cellsOf t=n+1)(g:i+xs.length<=cs.length)(f:xs.all (·.oneCell')=true)(e:ji cs i xs=cs')(c:Gs (pt b cs' T::M) k0):
  Gs L (Uw P (iS t (cU b i) (.agg xs.toArray)) k0):=Gs.stG a (λw h=>Cl (t:=t) hl d g f e h) c
def Gs.stx{n:Nat}{xs:LV_}(h:x=.agg xs.toArray)(a:bL L (pt b cs T::M))(hl:xs.length=n+1)(d:P.cellsOf t=n+1)(g:i+xs.length<=cs.length)(f:xs.all (·.oneCell')=true)(e:ji cs i xs=cs')(c:Gs (pt b cs' T::M) k0):
  Gs L (Uw P (iS t (cU b i) x) k0):=by subst h;exact Gs.sta a hl d g f e c
def Gs.stY{n:Nat}{xs:LV_}(a:bL L (pt b cs T::M))(hl:xs.length=n+1)(d:P.cellsOf t=n+1)(g:i+xs.length<=cs.length)(f:xs.all (·.oneCell')=true)(e:ji cs i xs=cs')(c:Gs (pt b cs' T::M) k0):
  Gs L (Yw P (ur t (cU b i) (.agg xs.toArray)) k0):=⟨λw y=>⟨(Gs.stG a (λw h=>Cl (t:=t) hl d g f e h) c).go w y⟩⟩
def Gs.Ib{c:Bool}{a b:WP}(d:c=true->Gs L a)(e:c=false->Gs L b):Gs L (Iw (.bool c) a b):=by
 cases c
 ·exact Gs.If (e rfl)
 ·exact Gs.It (d rfl)
structure Wr(G:Prop):Prop where
 out:G
def Snt:WP:=λ_=>True
def Gs.snt:Gs L Snt:=⟨λ_ _=>trivial⟩
def au{φ:WP}{G:Prop}(g:G)(h:Wr G->Gs L φ:=by
 intro g
 fail_if_success with_reducible exact Gs.snt
 repeat first
  |with_reducible apply Gs.D
  |with_reducible apply Gs.Q
  |with_reducible apply Gs.It
  |with_reducible apply Gs.If
  |((with_reducible apply Gs.ld);(· (repeat first|(with_reducible exact cF)|(with_reducible apply cS)));(· (intro w h;simp[go_sem,h]<;>first|exact⟨rfl,rfl⟩|exact rfl)))
  |((with_reducible apply Gs.ldW);(· (repeat first|(with_reducible exact cF)|(with_reducible apply cS)));(· (intro w h;simp[go_sem,h]<;>first|exact⟨rfl,rfl⟩|exact rfl)))
  |((with_reducible apply Gs.ldE);(· (repeat first|(with_reducible exact cF)|(with_reducible apply cS)));(· (intro w h;simp[go_sem,h]<;>first|exact⟨rfl,rfl⟩|exact rfl)))
  |((with_reducible apply Gs.stx);(·rfl);(· (repeat first|(with_reducible exact cF)|(with_reducible apply cS)));(·rfl);(·kernel_rfl);(·exact Nat.le_of_ble_eq_true rfl);(·rfl);(·first|exact kv rfl|(simp[ji];done)|(simp[ji];rfl)))
  |((with_reducible apply Gs.st);(· (repeat first|(with_reducible exact cF)|(with_reducible apply cS)));(· (intro w h;simp[go_sem,h]));(· (simp only[List.set_cons_succ,List.set_cons_zero]<;>rfl)))
  |((with_reducible apply Gs.al0);(· (intro w;simp[go_sem]<;>first|exact⟨rfl,rfl⟩|exact rfl)))
  |((with_reducible apply Gs.bx);(· (intro w;simp[go_sem]<;>first|exact⟨rfl,rfl⟩|exact rfl)))
  |((with_reducible apply Gs.V);(· (intro w _;simp[go_sem]<;>first|(rw[ie]<;>omega)|(rw[nr]<;>omega)|exact⟨rfl,rfl⟩|exact rfl)))
  |((with_reducible apply Gs.N);(· (intro w _;simp[go_sem]<;>first|(rw[ie]<;>omega)|(rw[nr]<;>omega)|exact⟨rfl,rfl⟩|exact rfl)))
  |((with_reducible apply Gs.W);(· (intro w _;simp[go_sem]<;>first|(rw[ie]<;>omega)|(rw[nr]<;>omega)|exact⟨rfl,rfl⟩|exact rfl)))
  |((with_reducible apply Gs.E);(· (intro w _;simp[go_sem]<;>first|(rw[ie]<;>omega)|(rw[nr]<;>omega)|exact⟨rfl,rfl⟩|exact rfl)))
  |((with_reducible apply Gs.Pu);(· (intro w;simp[go_sem]<;>first|(rw[ie]<;>omega)|(rw[nr]<;>omega)|exact⟨rfl,rfl⟩|exact rfl)))
 exact g.out):Gs L φ:=h ⟨g⟩
end
end Go.Vc
namespace Go.Proofs
open Go Go.Vc
section
variable{P:Program}{s:Sem Value}{u:Sem Unit}{n:Sem Next}{w w' :Wt_}{K:be}{A B:World->Prop}{C D:Prop}{L:World->Prop}{M:Value->Prop}{v:Vt_}{p q r:Prop}
def dF(a:K v w')(h:s.run P w=.ok v w' :=by simp[-Int.natCast_add,go_sem]<;>first|exact⟨rfl,rfl⟩|exact rfl):rv P s w K:=dy h a
def Kj(v:Vt_)(a:K v w')(h:s.run P w=.ok v w' :=by simp[go_sem]<;>first|exact⟨rfl,rfl⟩|exact rfl):rv P s w K:=dy h a
def lV(a:A w')(h:s.run P w=.ok (.bool true) w' :=by simp[go_sem]<;>first|exact⟨rfl,rfl⟩|exact rfl):rv P s w λv w=>xe v (A w) (B w):=dy h (by rw[nO];exact a)
def fh(a:B w')(h:s.run P w=.ok (.bool false) w' :=by simp[go_sem]<;>first|exact⟨rfl,rfl⟩|exact rfl):rv P s w λv w=>xe v (A w) (B w):=dy h (by rw[lW];exact a)
def II(a:K v w')(h:n.run P w=.ok (.value v) w' :=by simp[-Int.natCast_add,go_sem]<;>first|exact⟨rfl,rfl⟩|exact rfl):rn P n w K:=zw h a
def vn(a:M v)(h:∀w,s.run P w=.ok v w:=by intro _;simp[-Int.natCast_add,go_sem]<;>first|exact⟨rfl,rfl⟩|exact rfl):qM P s M:=gP h a
def RK(v:Vt_)(a:M v)(h:∀w,s.run P w=.ok v w:=by intro _;simp[go_sem]<;>first|exact⟨rfl,rfl⟩|exact rfl):qM P s M:=gP h a
def qW0(a:M v)(h:s.run P w=.ok v w:=by simp[-Int.natCast_add,go_sem]<;>first|exact⟨rfl,rfl⟩|exact rfl):rV P s w M:=gC h a
def dD(f:p)(a:K v w')(h:p->s.run P w=.ok v w' :=by intro f;simp[-Int.natCast_add,go_sem,f]<;>first|exact⟨rfl,rfl⟩|exact rfl):rv P s w K:=dy (h f) a
def xm(v:Vt_)(f:p)(a:K v w')(h:p->s.run P w=.ok v w' :=by intro f;simp[go_sem,f]<;>first|exact⟨rfl,rfl⟩|exact rfl):rv P s w K:=dy (h f) a
def ee(f:p)(a:A w')(h:p->s.run P w=.ok (.bool true) w' :=by intro f;simp[go_sem,f]<;>first|exact⟨rfl,rfl⟩|exact rfl):rv P s w λv w=>xe v (A w) (B w):=dy (h f) (by rw[nO];exact a)
def fH(f:p)(a:B w')(h:p->s.run P w=.ok (.bool false) w' :=by intro f;simp[go_sem,f]<;>first|exact⟨rfl,rfl⟩|exact rfl):rv P s w λv w=>xe v (A w) (B w):=dy (h f) (by rw[lW];exact a)
def Tr(f:p)(a:L w')(h:p->u.run P w=.ok () w' :=by intro f;simp[-Int.natCast_add,go_sem,f]<;>first|exact⟨rfl,rfl⟩|exact rfl):ru P u w L:=lO (h f) a
def qN1(f:p)(a:K v w')(h:p->n.run P w=.ok (.value v) w' :=by intro f;simp[-Int.natCast_add,go_sem,f]<;>first|exact⟨rfl,rfl⟩|exact rfl):rn P n w K:=zw (h f) a
def qP1(f:p)(a:M v)(h:p->∀w,s.run P w=.ok v w:=by intro f _;simp[-Int.natCast_add,go_sem,f]<;>first|exact⟨rfl,rfl⟩|exact rfl):qM P s M:=gP (h f) a
def ZI(v:Vt_)(f:p)(a:M v)(h:p->∀w,s.run P w=.ok v w:=by intro f _;simp[go_sem,f]<;>first|exact⟨rfl,rfl⟩|exact rfl):qM P s M:=gP (h f) a
def Q4(f:p)(a:C)(h:p->∀w,s.run P w=.ok (.bool true) w:=by intro f _;simp[go_sem,f]<;>first|exact⟨rfl,rfl⟩|exact rfl):qM P s λv=>xe v C D:=gP (h f) (by rw[nO];exact a)
def S7(f:p)(a:D)(h:p->∀w,s.run P w=.ok (.bool false) w:=by intro f _;simp[go_sem,f]<;>first|exact⟨rfl,rfl⟩|exact rfl):qM P s λv=>xe v C D:=gP (h f) (by rw[lW];exact a)
def AN(f:p)(a:M v)(h:p->s.run P w=.ok v w:=by intro f;simp[-Int.natCast_add,go_sem,f]<;>first|exact⟨rfl,rfl⟩|exact rfl):rV P s w M:=gC (h f) a
def U4(v:Vt_)(f:p)(a:M v)(h:p->s.run P w=.ok v w:=by intro f;simp[go_sem,f]<;>first|exact⟨rfl,rfl⟩|exact rfl):rV P s w M:=gC (h f) a
def nm(f:p)(g:q)(a:K v w')(h:p->q->s.run P w=.ok v w' :=by intro f g;simp[-Int.natCast_add,go_sem,f,g]<;>first|exact⟨rfl,rfl⟩|exact rfl):rv P s w K:=dy (h f g) a
def N9(v:Vt_)(f:p)(g:q)(a:K v w')(h:p->q->s.run P w=.ok v w' :=by intro f g;simp[go_sem,f,g]<;>first|exact⟨rfl,rfl⟩|exact rfl):rv P s w K:=dy (h f g) a
def qU2(f:p)(g:q)(a:L w')(h:p->q->u.run P w=.ok () w' :=by intro f g;simp[-Int.natCast_add,go_sem,f,g]<;>first|exact⟨rfl,rfl⟩|exact rfl):ru P u w L:=lO (h f g) a
def qW2(f:p)(g:q)(a:M v)(h:p->q->s.run P w=.ok v w:=by intro f g;simp[-Int.natCast_add,go_sem,f,g]<;>first|exact⟨rfl,rfl⟩|exact rfl):rV P s w M:=gC (h f g) a
def ZF(v:Vt_)(f:p)(g:q)(a:M v)(h:p->q->s.run P w=.ok v w:=by intro f g;simp[go_sem,f,g]<;>first|exact⟨rfl,rfl⟩|exact rfl):rV P s w M:=gC (h f g) a
def qS3(f:p)(g:q)(i:r)(a:K v w')(h:p->q->r->s.run P w=.ok v w' :=by intro f g i;simp[-Int.natCast_add,go_sem,f,g,i]<;>first|exact⟨rfl,rfl⟩|exact rfl):rv P s w K:=dy (h f g i) a
def ad6(v:Vt_)(f:p)(g:q)(i:r)(a:K v w')(h:p->q->r->s.run P w=.ok v w' :=by intro f g i;simp[go_sem,f,g,i]<;>first|exact⟨rfl,rfl⟩|exact rfl):rv P s w K:=dy (h f g i) a
def qSi(n:Int)(a:K (gI n) w)(h:s.run P w=.ok (gI n) w:=by simp[go_sem];rw[ie qZ qZ]<;>omega):rv P s w K:=dy h a
def V3(i:Nat)(a:K (gI ((i+1:Nat):Int)) w)(h:s.run P w=.ok (gI ((i+1:Nat):Int)) w:=by simp[go_sem];rw[ie qZ qZ]<;>omega):rv P s w K:=dy h a
def mL{n:Int}(b: -9223372036854775808<=n:=by omega)(a:n<9223372036854775808:=by omega):IntKind.i64.wrap n=n:=ie b a
def RW{n:Int}(b:0<=n:=by omega)(a:n<18446744073709551616:=by omega):IntKind.u64.wrap n=n:=nr b a
end
end Go.Proofs
namespace Go.Vc
open Go Go.Vc
end Go.Vc
