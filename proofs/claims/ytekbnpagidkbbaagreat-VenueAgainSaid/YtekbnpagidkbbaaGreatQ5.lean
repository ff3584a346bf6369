/- Part of a proof. -/
import Derived.Test.YtekbnpagidkbbaaGreatQ4
set_option linter.all false
namespace Go.Vc
open Go Go.Vc
variable {S:Type}{w:Wt_}
structure As where
 P:World->(Nat->Prop)->Prop
 lt:∀{w F b},P w F->F b->b<w.heap.size
 md:∀{w w' F G},P w F->aS G w w' ->(∀b,F b->¬G b)->P w' F
def tL(w:Wt_):List As->(Nat->Prop)->Prop
 | [],F=>∀b,¬F b
 |A::L,F=>∃F1 F2,A.P w F1/\tL w L F2/\(∀b,F1 b->¬F2 b)/\∀b,F b↔F1 b\/F2 b
def tL.lt:∀{L:List As} {F:NP_},tL w L F->∀{b},F b->b<w.heap.size
 | [],F,h,b,c=>absurd c (h b)
 |A::L,F,⟨f,g,h1,d,_,e⟩,b,c=>((e b).1 c).elim (A.lt h1) (tL.lt d)
def tL.md{w' :Wt_}{G:NP_}(m:aS G w w'):∀{L:List As} {F:NP_},tL w L F->(∀b,F b->¬G b)->tL w' L F
 | [],F,h,_=>h
 |A::L,F,⟨i,g,h1,f,j,d⟩,e=>⟨i,g,A.md h1 m λb c=>e b ((d b).2 (.inl c)),tL.md m f λb c=>e b ((d b).2 (.inr c)),j,d⟩
structure Ss(w:Wt_)(L:List As):Prop where
 out:∃F,tL w L F
abbrev WP:=World->Prop
structure Gs(L:List As)(φ:WP):Prop where
 go:∀w,Ss w L->φ w
section
variable{A B A' :As}{L L' M:List As}{φ ψ:WP}{w w' :Wt_}
def Ss.cons:Ss w (A::L)↔∃d c,A.P w d/\tL w L c/\∀b,d b->¬c b:=
 ⟨λ⟨_,d,c,h1,e,f,_⟩=>⟨d,c,h1,e,f⟩,λ⟨d,c,h1,e,f⟩=>⟨_,d,c,h1,e,f,λ_=>aG⟩⟩
def Ss.tail(h:Ss w (A::L)):Ss w L:=by
 obtain⟨d,f,h1,c,e⟩:=Ss.cons.1 h;exact⟨_,c⟩
end
structure dV(L M:List As):Prop where
 out:∀w F,tL w L F↔tL w M F
section
variable{A B A' :As}{L L' M:List As}{φ ψ:WP}{w w' :Wt_}
def EM{F:NP_}(h:tL w (A::B::L) F):tL w (B::A::L) F:=by
 obtain⟨f,p,h1,⟨F3,i,o,l,m,e⟩,g,j⟩:=h;refine⟨F3,λb=>f b\/i b,o,⟨f,i,h1,l,λb d c=>g b d ((e b).2 (.inr c)),λ_=>aG⟩,λb d c=>?_,λb=>?_⟩
 ·rcases c with c|c
  ·exact g b c ((e b).2 (.inl d))
  ·exact m b d c
 ·rw[j,e];constructor
  ·rintro(h|h|h)
   ·exact .inr (.inl h)
   ·exact .inl h
   ·exact .inr (.inr h)
  ·rintro(h|h|h)
   ·exact .inr (.inl h)
   ·exact .inl h
   ·exact .inr (.inr h)
def dV.swap:dV (A::B::L) (B::A::L):=⟨λ_ _=>⟨EM,EM⟩⟩
def dV.refl:dV L L:=⟨λ_ _=>aG⟩
def dV.symm(h:dV L M):dV M L:=⟨λw F=>(h.out w F).symm⟩
def dV.trans(h:dV L M)(c:dV M L'):dV L L' :=⟨λw F=>(h.out w F).trans (c.out w F)⟩
def dV.cons(h:dV L M):dV (A::L) (A::M):=⟨λw F=>⟨λ⟨e,c,h1,d,g,f⟩=>⟨e,c,h1,(h.out w c).1 d,g,f⟩,λ⟨e,c,h1,d,g,f⟩=>⟨e,c,h1,(h.out w c).2 d,g,f⟩⟩⟩
def eg:dV (A::L) (A::L):=.refl
def ee(h:dV L (A::M)):dV (B::L) (A::B::M):=(dV.cons h).trans .swap
def nL(h:dV L (A::M))(c:dV M L'):dV L (A::L'):=h.trans c.cons
def Gs.pk(h:Gs M φ)(k:dV L M:=by repeat first|(with_reducible exact dV.refl)|((apply nL);(·repeat first|(with_reducible exact eg)|(with_reducible apply ee)))):Gs L φ:=⟨λw ⟨F,x⟩=>h.go w ⟨F,(k.out w F).1 x⟩⟩
structure Sb(L M:List As):Prop where
 out:∀w F,tL w L F->∃F',tL w M F' /\∀b,F' b->F b
def Sb.refl:Sb L L:=⟨λ_ F h=>⟨F,h,λ_ h=>h⟩⟩
def Sb.drop(h:Sb L M):Sb (A::L) M:=⟨λw F ⟨i,g,h1,d,j,e⟩=>(h.out w g d).elim λc ⟨k1,k2⟩=>⟨c,k1,λb f=>(e b).2 (.inr (k2 b f))⟩⟩
def Sb.pick(h:dV L (A::L'))(f:Sb L' M):Sb L (A::M):=⟨λw F x=>by
 obtain⟨i,e,h1,g,l,j⟩:=(h.out w F).1 x;obtain⟨d,k1,k2⟩:=f.out w e g;exact⟨_,⟨i,d,h1,k1,λb c m=>l b c (k2 b m),λ_=>aG⟩,λb c=>(j b).2 (c.imp id (k2 b))⟩⟩
def Gs.fin(h:Gs M φ)(p:Sb L M:=by repeat first|(with_reducible exact Sb.refl)|((apply Sb.pick);(·repeat first|(with_reducible exact eg)|(with_reducible apply ee)))|(with_reducible apply Sb.drop)):Gs L φ:=⟨λw ⟨F,x⟩=>(p.out w F x).elim λc k=>h.go w ⟨c,k.1⟩⟩
def Gs.drop(h:Gs L φ):Gs (A::L) φ:=⟨λw x=>h.go w x.tail⟩
def Vw(P:Program)(s:Sem Value)(k:Value->WP):WP:=λw=>rv P s w k
def Uw(P:Program)(s:Sem Unit)(k:WP):WP:=λw=>ru P s w k
def Xw(P:Program)(s:Sem Value)(k:Value->WP):WP:=λw=>rx P s w k
def Yw(P:Program)(s:Sem Unit)(k:WP):WP:=λw=>vD P s w k
def Nw(P:Program)(s:Sem Next)(k:Value->WP):WP:=λw=>rn P s w k
def Pw(P:Program)(s:Sem Value)(k:Value->WP):WP:=λw=>g9 P s λv=>k v w
def Ww(P:Program)(s:Sem Value)(k:Value->WP):WP:=λw=>l8 P s w λv=>k v w
def PXw(P:Program)(s:Sem Value)(k:Value->WP):WP:=λw=>DI P s λv=>k v w
def Xo(P:Program)(s:Sem Value)(k:Value->WP):WP:=λw=>BL P s w λv=>k v w
def Ew(P:Program)(s:Sem Value)(v:Vt_)(k:WP):WP:=λw=>s.run P w=.ok v w/\k w
def Dw(k:WP):WP:=λw=>k w.drew
def Aw(a b:WP):WP:=λw=>a w/\b w
def Iw(v:Vt_)(a b:WP):WP:=λw=>qr v (a w) (b w)
def Bw(v:Vt_)(k:Bool->WP):WP:=λw=>Ep v λb=>k b w
def Qw(v:Vt_)(k:Value->WP):WP:=λw=>oQ v λv=>k v w
def Cw(P:Program)(f:FuncId)(args:Array Value)(k:Value->WP):WP:=λw=>Ca P f args w k
def Fw(P:Program)(f:Vt_)(args:LV_)(k:Value->WP):WP:=λw=>mM P f args w k
def Jw{S:Type}(a:(S->WP)->WP)(b:S->WP):WP:=λw=>cG (λJ=>a J w) b
def Zw(k:WP):WP:=λw=>∀_:Nat->Value,k w
def Hw(b:Bool)(x y:WP):WP:=λw=>bc b (x w) (y w)
def Gw(l:Nat)(k:WP):WP:=λw=>pP l w k
def Tw(ds:List Nat)(k:WP):WP:=λw=>zb ds w k
def Rw(P:Program)(ro:Option Nat)(gv:Vt_)(np:Nat)(rnd:Nat->List Value->WP->(Code->WP)->WP)(after:List Nat->Option Code->WP):WP:=λw=>Et P ro gv w np (λl x w kn kj=>rnd l x kn kj w) after
def Lw{S:Type}(body:S->(S->WP)->WP)(s:S):WP:=λw=>nU (λs w k=>body s k w) s w
variable{P:Program}{s:Sem Value}{v:Vt_}{k:Value->WP}{u:Sem Unit}{n:Sem Next}{k0 a b:WP}
def Gs.V(h:∀w,Ss w L->s.run P w=.ok v w)(c:Gs L (k v)):Gs L (Vw P s k):=⟨λw x=>bh (h w x) (c.go w x)⟩
def Gs.W(h:∀w,Ss w L->s.run P w=.ok v w)(c:Gs L (k v)):Gs L (Ww P s k):=⟨λw x=>cK (h w x) (c.go w x)⟩
def Gs.E(h:∀w,Ss w L->s.run P w=.ok v w)(c:Gs L k0):Gs L (Ew P s v k0):=⟨λw x=>⟨h w x,c.go w x⟩⟩
def Gs.N(h:∀w,Ss w L->n.run P w=.ok (.value v) w)(c:Gs L (k v)):Gs L (Nw P n k):=⟨λw x=>sr (h w x) (c.go w x)⟩
def Gs.Pu(h:∀w,s.run P w=.ok v w)(c:Gs L (k v)):Gs L (Pw P s k):=⟨λw x=>bQ h (c.go w x)⟩
def Gs.X(h:∀w,Ss w L->s.run P w=.ok v w)(c:Gs L (k v)):Gs L (Xw P s k):=⟨λw x=>jP (h w x) (c.go w x)⟩
def Gs.WX(h:∀w,Ss w L->s.run P w=.ok v w)(c:Gs L (k v)):Gs L (Xo P s k):=⟨λw x=>nt (h w x) (c.go w x)⟩
def md0(w:Wt_):M0 w w.drew:=(aS.refl _ w).drew
def Ss.md0(m:M0 w w')(h:Ss w L):Ss w' L:=h.out.elim λF x=>⟨F,x.md m dS⟩
def Gs.D(c:Gs L k0):Gs L (Dw k0):=⟨λw x=>c.go _ (x.md0 (Go.Vc.md0 w))⟩
def Gs.An(c:Gs L a)(d:Gs L b):Gs L (Aw a b):=⟨λw x=>⟨c.go w x,d.go w x⟩⟩
def Gs.It(c:Gs L a):Gs L (Iw (.bool true) a b):=⟨λw x=>c.go w x⟩
def Gs.If(c:Gs L b):Gs L (Iw (.bool false) a b):=⟨λw x=>c.go w x⟩
def Gs.I{p:Prop} [Decidable p](c:p->Gs L a)(d:¬p->Gs L b):Gs L (Iw (.bool (decide p)) a b):=⟨λw x=>by
 unfold Iw;rw[aw];by_cases h:p
 ·rw[ae (by simpa using h)];exact(c h).go w x
 ·rw[aa (by simpa using h)];exact(d h).go w x⟩
def Gs.Q{x:Addr}{k:Value->WP}(h:Gs L (k (.pointer (some x)))):Gs L (Qw (.pointer (some x)) k):=⟨λw y=>h.go w y⟩
def Gs.ca{f:FuncId}{c:Array Value}{φ:WP}(h:∀w,φ w->Ca P f c w k)(g:Gs L φ):Gs L (Cw P f c k):=⟨λw x=>h w (g.go w x)⟩
end
inductive Sy where
 |t (v:Vt_)
 |b (c:Bool)
 |u
abbrev El:=List (Nat×Sy)
abbrev Om:=Option (List Nat)
def Sy.v(s:Sy):Value:=match s with
 | .t v=>v
 | .b c=>.bool c
 | .u=>undef
def VM(v:Vt_):Sy:=match v with
 | .bool b=>.b b
 |v=>.t v
def yM:Bool->Sy->El->Nat->Sy
 |true,s,_,_=>s
 |false,_,[],_=>.u
 |false,_,(k,s)::r,t=>yM (k==t) s r t
def xy(l:El)(x:Operand):Sy:=match x with
 | .tmp t=>yM false .u l t
 | .const v=>VM v
 | .global g=>.t (bO g 0)
 | .func f=>.t (.func (.func f) #[] #[])
def fZ(l:El)(x:Operand):Value:=(xy l x).v
def pp(l:El):List Operand->List Value
 | []=>[]
 |x::r=>fZ l x::pp l r
def yv(l:El):List (Nat×Operand)->List (Nat×Value)
 | []=>[]
 |(i,x)::r=>(i,fZ l x)::yv l r
def DO(l:El)(x:Option Operand):Option Value:=match x with
 |none=>none
 |some x=>some (fZ l x)
def RC:List Operand->List Bool
 | []=>[]
 |x::r=>Es x::RC r
def oV(d:Option Nat)(s:Sy)(l:El):El:=match d with
 |none=>l
 |some d=>(d,s)::l
def Gv:Nat->List Value->El
 |_,[]=>[]
 |i,v::r=>(i,.t v)::Gv (i+1) r
def yK(l:El):(L:List Nat)->DP L
 | []=>()
 |t::r=>((yM false .u l t).v,yK l r)
def Cx:(L:List Nat)->DP L->El->El
 | [],_,l=>l
 |t::r,s,l=>(t,.t s.1)::Cx r s.2 l
def Jm:List Nat->Nat->List Value->El->El
 | [],_,_,l=>l
 |t::r,i,x,l=>Jm r (i+1) x ((t,.t (x.getD i undef))::l)
def HW(d:Om):List Nat:=match d with
 |none=>[]
 |some d=>d
def RR{α:Type}:List α->Nat
 | []=>0
 |_::r=>RR r+1
def ag8:List Value->Value->List Value
 | [],v=>[v]
 |x::r,v=>x::ag8 r v
def Qq(l:LV_):Value:=match l with
 | [v]=>v
 |l=>.tuple l.toArray
def um(B t:Nat):Bool:=(B>>>t)%2==1
def JX(t:Nat):Nat:=2 ^ (t / 2)*2 ^ (t - t / 2)
def Mx(b:Bool):Bool:=match b with
 |true=>false
 |false=>true
def LZ(a b:Bool):Bool:=match a with
 |true=>b
 |false=>false
def ub(a b:Bool):Bool:=match a with
 |true=>true
 |false=>b
inductive Ac where
 |q (s:Sy)
 |pk (v x y:Vt_)
 |nk (v:Vt_)
 |v (s:Sem Value)
 |x (s:Sem Value)
 |n (s:Sem Next)
 |c (f:FuncId) (a:LV_)
 |rn (f:FuncId) (a:LV_)
 |f (g:Vt_) (a:LV_)
 |u (s:Sem Unit)
 |y (s:Sem Unit)
 |p (s:Sem Value)
 |px (s:Sem Value)
 |w (s:Sem Value)
 |wx (s:Sem Value)
 |z
def AM(b:Bool)(x y:Ac):Ac:=match b with
 |true=>x
 |false=>y
def KD(c x y:Sy):Ac:=match c with
 | .b true=>.q x
 | .b false=>.q y
 |c=>.pk c.v x.v y.v
def Sl(B S N:Nat)(l:El)(o:Oper):Ac:=match o.op with
 | .move x=>.q (xy l x)
 | .assign x=>.q (xy l x)
 | .pick c x y=>KD (xy l c) (xy l x) (xy l y)
 | .nilCheck x=>.nk (fZ l x)
 | .makeFunc f a b=>.q (.t (.func f (pp l a.toList).toArray (pp l b.toList).toArray))
 | .alloc e=>AM (um B e) (.x (tW e)) (.v (iA e true (.tuple #[])))
 | .box e x=>.v (Instr.box e (fZ l x))
 | .build t ps=>AM (um B t) (.x (Bs t (yv l ps.toList).toArray)) (.v (Instr.build t (yv l ps.toList).toArray))
 | .buildSlice t n ps=>.x (pN t n (yv l ps.toList))
 | .load t x=>AM (um B t) (.x (qm t (fZ l x))) (.v (iL t (fZ l x)))
 | .store t x y=>AM (um B t) (.y (oT t (fZ l x) (fZ l y))) (.u (iS t (fZ l x) (fZ l y)))
 | .binOp op t x y _=>.v (gx op t (ub (Es x) (Es y)) (fZ l x) (fZ l y))
 | .unOp op _ x=>.v (Op.unary op (fZ l x))
 | .convert s d x=>AM (ub (um S s) (um S d)) (.x (rI s d (fZ l x))) (.v (convert s d (fZ l x)))
 | .sliceToArrayPointer t x=>.v (Instr.arrayAt t (fZ l x))
 | .makeInterface t x=>.v (Instr.makeInterface t (fZ l x))
 | .makeMap t r=>.v (Instr.makeMap t (DO l r))
 | .makeSlice t a b=>.x (Da t (fZ l a) (fZ l b))
 | .slice t x a b c=>.v (Instr.sliceAt t (fZ l x) (DO l a) (DO l b) (DO l c))
 | .fieldAddr t x f=>.v (iF t (fZ l x) f)
 | .field t x f=>.v (Instr.field t (fZ l x) f)
 | .indexAddr t x i=>.v (iX t (fZ l x) (fZ l i))
 | .index t x i=>.v (Instr.index t (fZ l x) (fZ l i))
 | .lookup t x i ok=>.x (ju t (fZ l x) (fZ l i) ok)
 | .mapUpdate t m k x=>.y (qw t (fZ l m) (fZ l k) (fZ l x))
 | .insert t m k x=>.y (qw t (fZ l m) (fZ l k) (fZ l x))
 | .range t x=>.x (Ao t (fZ l x))
 | .next it s=>.x (C7 (fZ l it) s o.type)
 | .entry it=>.x (Ap (fZ l it))
 | .mapEntry t m k=>.x (Jp t (fZ l m) (fZ l k))
 | .entryStore t m s x=>.y (NO t (fZ l m) (fZ l s) (fZ l x))
 | .typeAssert x t u ok=>.v (Instr.typeAssert (fZ l x) t u ok)
 | .extract t i=>.v (Instr.extract (fZ l t) i)
 | .call c=>match c.callee with
  | .value (.func f)=>AM (um N f) (.rn f (pp l c.args.toList)) (.c f (pp l c.args.toList))
  | .value f=>.f (fZ l f) (pp l c.args.toList)
  | .builtin .append=>.x (eZ c.argTypes o.type (pp l c.args.toList))
  | .builtin .copy=>.x (JO c.argTypes o.type (pp l c.args.toList))
  | .builtin .delete=>.x (sQ c.argTypes o.type (pp l c.args.toList))
  | .builtin .clear=>.x (zT c.argTypes o.type (pp l c.args.toList))
  | .builtin b=>.n (builtin b c.argTypes o.type (RC c.args.toList).toArray (pp l c.args.toList).toArray)
  |_=>.z
 |_=>.z
def Qu(S:Nat)(o:Oper):Bool:=match o.op with
 | .move _| .pick .. | .nilCheck _| .makeFunc .. =>true
 | .binOp .. | .unOp .. | .fieldAddr .. | .field .. | .indexAddr .. | .index .. | .slice .. | .sliceToArrayPointer .. | .extract .. | .build .. | .makeInterface .. =>true
 | .load .. | .lookup .. =>true
 | .convert _ d _=>Mx (um S d)
 | .call c=>match c.callee with
  | .builtin .len=>true
  | .builtin .min=>true
  | .builtin .max=>true
  |_=>false
 |_=>false
def Vg(B S:Nat)(l:El)(o:Oper):Ac:=match o.op with
 | .move x=>.q (xy l x)
 | .pick c x y=>KD (xy l c) (xy l x) (xy l y)
 | .nilCheck x=>.nk (fZ l x)
 | .makeFunc f a b=>.q (.t (.func f (pp l a.toList).toArray (pp l b.toList).toArray))
 | .build t ps=>AM (um B t) (.px (Bs t (yv l ps.toList).toArray)) (.p (Instr.build t (yv l ps.toList).toArray))
 | .binOp op t x y _=>.p (gx op t (ub (Es x) (Es y)) (fZ l x) (fZ l y))
 | .unOp op _ x=>.p (Op.unary op (fZ l x))
 | .sliceToArrayPointer t x=>.p (Instr.arrayAt t (fZ l x))
 | .makeInterface t x=>.p (Instr.makeInterface t (fZ l x))
 | .slice t x a b c=>.p (Instr.sliceAt t (fZ l x) (DO l a) (DO l b) (DO l c))
 | .fieldAddr t x f=>.p (iF t (fZ l x) f)
 | .field t x f=>.p (Instr.field t (fZ l x) f)
 | .indexAddr t x i=>.p (iX t (fZ l x) (fZ l i))
 | .index t x i=>.p (Instr.index t (fZ l x) (fZ l i))
 | .extract t i=>.p (Instr.extract (fZ l t) i)
 | .load t x=>AM (um B t) (.wx (qm t (fZ l x))) (.w (iL t (fZ l x)))
 | .lookup t x i ok=>.wx (ju t (fZ l x) (fZ l i) ok)
 | .convert s d x=>AM (ub (um S s) (um S d)) (.wx (rI s d (fZ l x))) (.w (convert s d (fZ l x)))
 | .call c=>match c.callee with
  | .builtin .len=>.w (Builtin.len_ c.argTypes o.type (pp l c.args.toList).toArray)
  | .builtin .min=>.w (Builtin.min_ c.argTypes o.type (pp l c.args.toList).toArray)
  | .builtin .max=>.w (Builtin.max_ c.argTypes o.type (pp l c.args.toList).toArray)
  |_=>.z
 |_=>.z
inductive Gd where
 |y
 |n
 |a (v:Vt_) (s:Nat) (c:Bool)
def Kc:List Oper->Nat->Option Nat
 | [],_=>none
 |o::_,0=>o.dst
 |_::r,j+1=>Kc r j
def QT(b c:Bool):Gd:=match b,c with
 |true,true=>.y
 |false,false=>.y
 |_,_=>.n
def Q7(s:Sy)(d:Nat)(c:Bool):Gd:=match s with
 | .u=>.n
 | .b b=>QT b c
 | .t v=>.a v d c
def QX(d:Option Nat)(c:Bool)(l:El):Gd:=match d with
 |none=>.n
 |some d=>Q7 (yM false .u l d) d c
def Mu(ops:List Oper)(l:El)(g:Option (Nat×Bool)):Gd:=match g with
 |none=>.y
 |some (j,c)=>QX (Kc ops j) c l
structure Ma where
 i:Nat
 m:Nat
 dm:Nat
 am:Nat
 rd:Bool
 o:Oper
def Vm(g:Ground)(x:Nat):Nat:=match g with
 | .textOnly _=>0
 | .gcOnly _=>0
 |_=>x
def wY:List Edge->Nat
 | []=>0
 |e::r=>Vm e.ground (2 ^ e.on)|||wY r
def FQ(dm:Nat):List (Nat×Nat)->Nat
 | []=>0
 |(i,a)::r=>((dm / i)%2*a)|||FQ dm r
def vV(S:Nat):List Oper->Nat->List (Nat×Nat)->List Ma
 | [],_,_=>[]
 |o::r,i,A=>⟨i,wY o.after.toList|||i,wY o.after.toList,wY o.after.toList|||FQ (wY o.after.toList) A,Qu S o,o⟩::
   vV S r (i*2) ((i,wY o.after.toList|||FQ (wY o.after.toList) A)::A)
def JM:Bool->Option Ma->List Ma->Nat->Option Ma
 |true,e,_,_=>e
 |false,_,[],_=>none
 |false,_,e::r,dn=>JM (LZ e.rd (dn&&& e.m==e.dm)) (some e) r dn
def Ia(b:Bool)(e:Ma)(l:List Ma):List Ma:=match b with
 |true=>e::l
 |false=>l
def JE(dn:Nat):List Ma->List Ma
 | []=>[]
 |e::r=>Ia (dn&&& e.m==e.dm) e (JE dn r)
abbrev Pd:=List (Nat×Sem Value×Value)
def Oz(b:Bool)(p:Nat×Sem Value×Value)(l:Pd):Pd:=match b with
 |true=>p::l
 |false=>l
def NP(am:Nat):Pd->Pd
 | []=>[]
 |(i,s,v)::r=>Oz (am&&& i==0) (i,s,v) (NP am r)
structure Rg where
 ops:List Oper
 es:List Ma
def Qc(a b:Nat):Nat:=a+b - (a+b - 2)
def SV(a b:Nat):Nat:=a*b - (a*b - 2)
def uu:Code->Bool
 | .seq a b=>ub (uu a) (uu b)
 | .cond _ a b=>ub (uu a) (uu b)
 | .block _ c=>uu c
 | .loop c=>uu c
 | .scope c=>uu c
 | .rangeFunc .. =>true
 | .skip=>false
 | .region .. =>false
 | .exit _=>false
 | .label _=>false
 | .goto _=>false
 | .ret=>false
 | .refuse _=>false
def D7:List Oper->Bool
 | []=>false
 |o::r=>ub (match o.guard with|none=>false|some _=>true) (D7 r)
def D6(o:Oper):Bool:=match o.op with
 | .alloc _| .box .. | .buildSlice .. | .makeSlice .. | .makeMap .. | .call _| .store .. | .mapUpdate .. | .insert .. | .mapEntry .. | .entryStore .. =>true
 |_=>false
def IB(b:Bool)(m i am:Nat):Bool:=match b with
 |true=>Mx (m&&& am==m)
 |false=>false
def IN(b:Bool)(m i:Nat):Nat:=match b with
 |true=>m|||i
 |false=>m
def Kk:List Ma->Nat->Bool
 | [],_=>false
 |e::r,m=>ub (IB (D6 e.o) m e.i e.am) (Kk r (IN (D6 e.o) m e.i))
def PH(S:Nat)(ops:List Oper)(draw:Bool):Nat:=match ub (D7 ops) (LZ draw (Kk (vV S ops 1 []) 0))with
 |true=>2
 |false=>1
def VG(b:Bool)(x y:Nat):Nat:=match b with
 |true=>x
 |false=>y
def QD:List Oper->Nat
 | []=>0
 | [_]=>1
 | [_,_]=>2
 |_::_::_::_=>3
def CB:Code->Nat
 | .region _ ops _=>QD ops.toList
 | .seq a b=>CB a+CB b
 | .cond _ _ _=>9
 | .block _ c=>CB c
 | .loop _=>9
 | .rangeFunc .. =>9
 | .skip=>0
 | .scope _=>0
 | .exit _=>0
 | .label _=>0
 | .goto _=>0
 | .ret=>0
 | .refuse _=>0
def FU:Bool->Nat->List (Nat×Nat)->Nat->Nat
 |true,x,_,_=>x
 |false,_,[],_=>0
 |false,_,(k,x)::r,i=>FU (k==i) x r i
def GO:List (Nat×Nat)->List (Nat×Nat)->List (Nat×Nat)
 | [],b=>b
 |(k,x)::r,b=>(k,Qc x (FU false 0 b k))::GO r b
def Jk(m:Nat):List (Nat×Nat)->List (Nat×Nat)
 | []=>[]
 |(k,x)::r=>(k,SV m x)::Jk m r
def JY(n:Nat)(a b:Code):Bool:=LZ (n==2) (LZ (Mx (uu a)) (Mx (CB b / 3==0)))
structure Xs where
 n:Nat
 l:List (Nat×Nat)
def OG(n:Nat)(x y:Xs):Xs:=⟨SV n y.n,GO x.l (Jk n y.l)⟩
def VD(x y:Xs)(a b:Code):Xs:=OG (VG (JY x.n a b) 1 x.n) x y
def WK(x y:Xs):Xs:=⟨Qc x.n y.n,GO x.l y.l⟩
def VC(x:Xs)(i:Nat):Xs:=⟨Qc x.n (FU false 0 x.l i),x.l⟩
def wC(S:Nat):Code->Xs
 | .region _ ops d=>⟨PH S ops.toList d,[]⟩
 | .seq a b=>VD (wC S a) (wC S b) a b
 | .cond _ a b=>WK (wC S a) (wC S b)
 | .block i c=>VC (wC S c) i
 | .loop c=>⟨0,(wC S c).l⟩
 | .exit i=>⟨0,[(i,1)]⟩
 | .ret=>⟨0,[]⟩
 | .refuse _=>⟨0,[]⟩
 | .goto _=>⟨0,[]⟩
 | .skip=>⟨1,[]⟩
 | .scope _=>⟨1,[]⟩
 | .label _=>⟨1,[]⟩
 | .rangeFunc .. =>⟨1,[]⟩
def N1(d:Option Nat)(m:Nat):Nat:=match d with
 |none=>m
 |some d=>m|||JX d
def I9:List Oper->Nat->Nat
 | [],m=>m
 |o::r,m=>I9 r (N1 o.dst m)
def uz:Code->Nat->Nat
 | .region _ ops _,m=>I9 ops.toList m
 | .seq a b,m=>uz b (uz a m)
 | .cond _ a b,m=>uz b (uz a m)
 | .block _ c,m=>uz c m
 | .loop c,m=>uz c m
 | .scope c,m=>uz c m
 | .skip,m=>m
 | .exit _,m=>m
 | .label _,m=>m
 | .goto _,m=>m
 | .ret,m=>m
 | .refuse _,m=>m
 | .rangeFunc ..,m=>m
structure Lv where
 m:Nat
 l:List Nat
def Jj(b:Bool)(k:Nat)(s:Lv):Lv:=match b with
 |true=>⟨s.m - JX k,k::s.l⟩
 |false=>s
def EP:El->Lv->Lv
 | [],s=>s
 |(k,_)::r,s=>EP r (Jj (um s.m k) k s)
def oZ(x:Operand)(s:Lv):Lv:=match x with
 | .tmp t=>Jj (um s.m t) t s
 |_=>s
def x8:List Operand->Lv->Lv
 | [],s=>s
 |x::r,s=>x8 r (oZ x s)
def DN:List (Nat×Operand)->Lv->Lv
 | [],s=>s
 |(_,x)::r,s=>DN r (oZ x s)
def Cc(x:Option Operand)(s:Lv):Lv:=match x with
 |some x=>oZ x s
 |none=>s
def NF(o:Op)(s:Lv):Lv:=match o with
 | .move x| .assign x| .box _ x| .load _ x| .nilCheck x| .unOp _ _ x| .convert _ _ x| .sliceToArrayPointer _ x| .makeInterface _ x
 | .makeChan _ x| .fieldAddr _ x _| .field _ x _| .range _ x| .next x _| .entry x| .typeAssert x _ _ _| .extract x _| .panic x| .recv _ x _=>oZ x s
 | .pick c a b=>oZ b (oZ a (oZ c s))
 | .build _ ps| .buildSlice _ _ ps=>DN ps.toList s
 | .store _ a v| .binOp _ _ a v _| .makeSlice _ a v| .indexAddr _ a v| .index _ a v| .lookup _ a v _| .mapEntry _ a v| .send a v=>oZ v (oZ a s)
 | .makeFunc _ a b=>x8 b.toList (x8 a.toList s)
 | .makeMap _ r=>Cc r s
 | .slice _ x a b c=>Cc c (Cc b (Cc a (oZ x s)))
 | .mapUpdate _ m k v| .entryStore _ m k v| .insert _ m k v=>oZ v (oZ k (oZ m s))
 | .call c=>x8 c.args.toList (match c.callee with
  | .value f=>oZ f s
  |_=>s)
 |_=>s
def Ja:List Oper->Lv->Lv
 | [],s=>s
 |o::r,s=>Ja r (NF o.op s)
def tQ:Code->Lv->Lv
 | .region _ ops _,s=>Ja ops.toList s
 | .seq a b,s=>tQ b (tQ a s)
 | .cond c a b,s=>tQ b (tQ a (oZ c s))
 | .block _ c,s=>tQ c s
 | .loop c,s=>tQ c s
 | .scope c,s=>tQ c s
 | .rangeFunc g _ a b,s=>tQ b (tQ a (oZ g s))
 | .skip,s=>s
 | .exit _,s=>s
 | .label _,s=>s
 | .goto _,s=>s
 | .ret,s=>s
 | .refuse _,s=>s
inductive It where
 |c (c:Code)
 |b (i:Nat)
 |e (k:El->Om->WP)
 |k (a:WP) (b:Code->WP)
 |a (i:Nat) (c:Code) (a:WP) (b:Code->WP)
inductive Md where
 |l
 |r (i:Nat)
 |a
inductive Z3 where
 |s
 |r
 |x (i:Nat)
 |xb (b:Bool) (i:Nat)
 |xv (i:Nat)
 |c (c:Code)
 |j (b:Bool) (a c:Code)
 |j1 (s:Lv) (a c:Code)
 |j2 (b:Bool) (s:Lv) (a c:Code)
 |jl (L:List Nat) (a c:Code)
 |i (s:Sy) (a c:Code)
 |lp (rf:Bool) (L:List Nat) (c:Code)
 |l (ops r:List Oper)
 |d (R:Rg) (dn:Nat) (pd:Pd)
 |f (e:Option Ma) (R:Rg) (dn:Nat) (pd:Pd)
 |e (es:List Ma) (R:Rg) (dn:Nat) (pd:Pd)
 |g (m:Md) (g:Gd) (o:Oper) (nx:Z3)
 |o (a:Ac) (i:Nat) (d:Option Nat) (nx:Z3)
 |v (pd:Pd) (nx:Z3)
 |re (rs:List ResultVar) (vs:LV_)
 |rb (b:Bool) (a:Vt_) (t:TypeId) (rs:List ResultVar) (vs:LV_)
def ui:WP:=λ_=>False
def Ut(P:Program)(f:FuncId)(a:LV_)(k:Value->WP):WP:=λw=>rnx P f a w k
class Hd(α:Type) where
 v:α
def Sw{α:Type} [h:Hd α]:α:=h.v
abbrev YO(S:Type):=S->World->(S->World->Prop)->Prop
abbrev Wv(S:Type):=S->World->Prop
abbrev Vj:=Nat->List Value->World->(World->Prop)->(Code->World->Prop)->Prop
abbrev Xk:=List Nat->Option Code->World->Prop
def lE{b:YO S}{s:S}{k:S->World->Prop}(h:b s w k): @Sw (YO S) ⟨b⟩ s w k:=h
def jG{b:Wv S}{s:S}(h:b s w): @Sw (Wv S) ⟨b⟩ s w:=h
def ouR{b:Vj}{i:Nat}{x:LV_}{n:World->Prop}{j:Code->World->Prop}(h:b i x w n j): @Sw Vj ⟨b⟩ i x w n j:=h
def Nn{b:Xk}{m:List Nat}{p:Option Code}(h:b m p w): @Sw Xk ⟨b⟩ m p w:=h
def Jf{S:Type}(b:YO S)(s:S)(w:Wt_):Prop:=nU b s w
def Kl{S:Type}(A:(Wv S)->Prop)(B:Wv S):Prop:=cG A B
def UP(P:Program)(ro:Option Nat)(g:Vt_)(w:Wt_)(n:Nat)(r:Vj)(a:Xk):Prop:=Et P ro g w n r a
def Pr{b:YO S}{s:S}:Jf b s w=nU (@Sw (YO S) ⟨b⟩) s w:=rfl
def QR{A:(Wv S)->Prop}{B:Wv S}:Kl A B=cG A (@Sw (Wv S) ⟨B⟩):=rfl
def Ws{P:Program}{ro:Option Nat}{g:Vt_}{n:Nat}{r:Vj}{a:Xk}:UP P ro g w n r a=Et P ro g w n (@Sw Vj ⟨r⟩) (@Sw Xk ⟨a⟩):=rfl
def Uu{P:Program}{ro:Option Nat}{g:Vt_}{n:Nat}{r:Vj}{a:Xk}(h:Et P ro g w n r a):Et P ro g w n (@Sw Vj ⟨r⟩) a:=h
def VV(N R:WP)(X:Nat->WP)(p:Option Code):WP:=jx N R X p
section
variable{P:Program}{s:Sem Value}{u:Sem Unit}{n:Sem Next}{k:Value->WP}{c:WP}{w:Wt_}{f:FuncId}{g:Vt_}{a:Array Value}{xs:LV_}{S:Type}{A:(S->WP)->WP}{B:S->WP}{i:Nat}{ds:List Nat}{N R:WP}{X:Nat->WP}{p:Option Code}{ro:Option Nat}{m:Nat}{rnd:Nat->List Value->WP->(Code->WP)->WP}{q:List Nat->Option Code->WP}{body:S->(S->WP)->WP}{st:S}
def Ys:Vw P s k w=rv P s w λv w=>k v w:=rfl
def Y9:Xw P s k w=rx P s w λv w=>k v w:=rfl
def Zz:Nw P n k w=rn P n w λv w=>k v w:=rfl
def YR:Uw P u c w=ru P u w λw=>c w:=rfl
def Zh:Yw P u c w=vD P u w λw=>c w:=rfl
def Yx:Cw P f a k w=Ca P f a w λv w=>k v w:=rfl
def Zx:Ut P f xs k w=rnx P f xs w λv w=>k v w:=rfl
def XE:Fw P g xs k w=mM P g xs w λv w=>k v w:=rfl
def XL:Jw A B w=Kl (λJ=>A J w) (λs w=>B s w):=rfl
def Yr:Gw i c w=pP i w λw=>c w:=rfl
def Zu:Tw ds c w=zb ds w λw=>c w:=rfl
def Zj:VV N R X p w=jx (λw=>N w) (λw=>R w) (λi w=>X i w) p w:=rfl
def XI:Rw P ro g m rnd q w=UP P ro g w m (λl x w b e=>rnd l x b e w) (λd p w=>q d p w):=rfl
def ZI:Lw body st w=Jf (λs w k=>body s k w) st w:=rfl
end
structure ad3 where
 P:Program
 B:Nat
 S:Nat
 N:Nat
 rs:List ResultVar
 K:Value->WP
def dv(c:ad3):Nat->Option Nat->Z3->List It->El->Om->WP
 |0,_,_,_,_,_=>ui
 |n+1,ro,.s,[],l,none=>dv c n ro (.re c.rs []) [] l none
 |n+1,ro,.s,[],l,some d=>Tw d (dv c n ro (.re c.rs []) [] l none)
 |n+1,ro,.s,.c x::st,l,ds=>dv c n ro (.c x) st l ds
 |n+1,ro,.s,.b _::st,l,ds=>dv c n ro .s st l ds
 |n+1,ro,.s,.e k::_,l,ds=>k l ds
 |n+1,ro,.s,.k a _::_,l,ds=>a
 |n+1,ro,.s,.a i x p q::_,l,ds=>Gw i (dv c n ro (.c x) [.k p q] l none)
 |n+1,ro,.r,[],l,ds=>dv c n ro .s [] l ds
 |n+1,ro,.r,.c _::st,l,ds=>dv c n ro .r st l ds
 |n+1,ro,.r,.b _::st,l,ds=>dv c n ro .r st l ds
 |n+1,ro,.r,.e _::st,l,ds=>dv c n ro .r st l ds
 |n+1,ro,.r,.k _ b::_,l,ds=>b .ret
 |n+1,ro,.r,.a _ _ _ _::_,l,ds=>ui
 |n+1,ro,.x i,[],l,ds=>ui
 |n+1,ro,.x i,.c _::st,l,ds=>dv c n ro (.x i) st l ds
 |n+1,ro,.x i,.b j::st,l,ds=>dv c n ro (.xb (i==j) i) st l ds
 |n+1,ro,.x i,.e _::st,l,ds=>dv c n ro (.x i) st l ds
 |n+1,ro,.x i,.k _ b::_,l,ds=>b (.exit i)
 |n+1,ro,.x i,.a _ _ _ _::_,l,ds=>ui
 |n+1,ro,.xb true _,st,l,ds=>dv c n ro .s st l ds
 |n+1,ro,.xb false i,st,l,ds=>dv c n ro (.x i) st l ds
 |n+1,ro,.xv i,[],l,ds=>ui
 |n+1,ro,.xv i,.c _::st,l,ds=>dv c n ro (.xv i) st l ds
 |n+1,ro,.xv i,.b j::st,l,ds=>Hw (Nat.beq i j) (dv c n ro .s st l ds) (dv c n ro (.xv i) st l ds)
 |n+1,ro,.xv i,.e _::st,l,ds=>dv c n ro (.xv i) st l ds
 |n+1,ro,.xv i,.k _ b::_,l,ds=>b (.exit i)
 |n+1,ro,.xv i,.a _ _ _ _::_,l,ds=>ui
 |n+1,ro,.c .skip,st,l,ds=>dv c n ro .s st l ds
 |n+1,ro,.c (.region _ ops false),st,l,ds=>dv c n ro (.l ops.toList ops.toList) st l ds
 |n+1,ro,.c (.region _ ops true),st,l,ds=>Dw (dv c n ro (.d ⟨ops.toList,vV c.S ops.toList 1 []⟩ 0 []) st l ds)
 |n+1,ro,.c (.seq a b),st,l,ds=>dv c n ro (.j (JY (wC c.S a).n a b) a b) st l ds
 |n+1,ro,.j false a b,st,l,ds=>dv c n ro (.c a) (.c b::st) l ds
 |n+1,ro,.j true a b,st,l,ds=>dv c n ro (.j1 (EP l ⟨uz a 0,[]⟩) a b) st l ds
 |n+1,ro,.j1 s a b,st,l,ds=>dv c n ro (.j2 (s.m==0) s a b) st l ds
 |n+1,ro,.j2 true s a b,st,l,ds=>dv c n ro (.jl s.l a b) st l ds
 |n+1,ro,.j2 false s a b,st,l,ds=>dv c n ro (.jl (tQ b s).l a b) st l ds
 |n+1,ro,.jl L a b,st,l,ds=>Jw (S:=DP L) (λJ=>dv c n ro (.c a) (.e (λl _=>J (yK l L))::st) l ds) (λs=>Zw (dv c n ro (.c b) st (Cx L s l) ds))
 |n+1,ro,.c (.cond x a b),st,l,ds=>dv c n ro (.i (xy l x) a b) st l ds
 |n+1,ro,.i (.b true) a _,st,l,ds=>dv c n ro (.c a) st l ds
 |n+1,ro,.i (.b false) _ b,st,l,ds=>dv c n ro (.c b) st l ds
 |n+1,ro,.i (.t v) a b,st,l,ds=>Iw v (dv c n ro (.c a) st l ds) (dv c n ro (.c b) st l ds)
 |n+1,ro,.i .u _ _,st,l,ds=>ui
 |n+1,ro,.c (.block i x),st,l,ds=>dv c n ro (.c x) (.b i::st) l ds
 |n+1,ro,.c (.loop x),st,l,ds=>dv c n ro (.lp (uu x) (EP l ⟨uz x 0,[]⟩).l x) st l ds
 |n+1,ro,.lp false L x,st,l,ds=>Lw (S:=DP L) (λs k=>Zw (dv c n ro (.c x) (.e (λl _=>k (yK l L))::st) (Cx L s l) ds)) (yK l L)
 |n+1,ro,.lp true L x,st,l,ds=>Lw (S:=DP L×List Nat) (λs k=>Zw (dv c n ro (.c x) (.e (λl d=>k (yK l L,HW d))::st) (Cx L s.1 l) (some s.2))) (yK l L,HW ds)
 |n+1,ro,.c (.rangeFunc gv ps a b),st,l,ds=>
  Rw c.P ro (fZ l gv) (RR ps.toList) (λi x p q=>dv c n (some i) (.c a) [.a i b p q] (Jm ps.toList 0 x l) none)
   (λmk pd=>VV (dv c n ro .s st l (some (mk++HW ds))) (dv c n ro .r st l (some (mk++HW ds))) (λi=>dv c n ro (.xv i) st l (some (mk++HW ds))) pd)
 |n+1,ro,.c (.exit i),st,l,ds=>dv c n ro (.x i) st l ds
 |n+1,ro,.c .ret,st,l,ds=>dv c n ro .r st l ds
 |n+1,ro,.c (.label _),st,l,ds=>dv c n ro .s st l ds
 |n+1,ro,.c (.scope x),st,l,ds=>dv c n ro (.c x) st l ds
 |n+1,ro,.c (.goto _),st,l,ds=>ui
 |n+1,ro,.c (.refuse _),st,l,ds=>ui
 |n+1,ro,.l _ [],st,l,ds=>dv c n ro .s st l ds
 |n+1,ro,.l ops (o::r),st,l,ds=>dv c n ro (.g .l (Mu ops l o.guard) o (.l ops r)) st l ds
 |n+1,ro,.g _ .n o nx,st,l,ds=>dv c n ro nx st (oV o.dst .u l) ds
 |n+1,ro,.g m (.a v s true) o nx,st,l,ds=>Iw v (dv c n ro (.g m .y o nx) st ((s,.b true)::l) ds) (dv c n ro (.g m .n o nx) st ((s,.b false)::l) ds)
 |n+1,ro,.g m (.a v s false) o nx,st,l,ds=>Iw v (dv c n ro (.g m .n o nx) st ((s,.b true)::l) ds) (dv c n ro (.g m .y o nx) st ((s,.b false)::l) ds)
 |n+1,ro,.g .l .y o nx,st,l,ds=>dv c n ro (.o (Sl c.B c.S c.N l o) 0 o.dst nx) st l ds
 |n+1,ro,.g (.r i) .y o nx,st,l,ds=>dv c n ro (.o (Vg c.B c.S l o) i o.dst nx) st l ds
 |n+1,ro,.g .a .y o (.d R dn pd),st,l,ds=>dv c n ro (.o (Sl c.B c.S c.N l o) 0 o.dst (.v pd (.d R dn pd))) st l ds
 |n+1,ro,.o (.q s) _ d nx,st,l,ds=>dv c n ro nx st (oV d s l) ds
 |n+1,ro,.o (.pk v x y) _ d nx,st,l,ds=>Bw v λb=>dv c n ro nx st (oV d (.t (Q9 b x y)) l) ds
 |n+1,ro,.o (.nk v) _ d nx,st,l,ds=>Qw v λv=>dv c n ro nx st (oV d (.t v) l) ds
 |n+1,ro,.o (.v s) _ d nx,st,l,ds=>Vw c.P s λv=>dv c n ro nx st (oV d (.t v) l) ds
 |n+1,ro,.o (.x s) _ d nx,st,l,ds=>Xw c.P s λv=>dv c n ro nx st (oV d (.t v) l) ds
 |n+1,ro,.o (.n s) _ d nx,st,l,ds=>Nw c.P s λv=>dv c n ro nx st (oV d (.t v) l) ds
 |n+1,ro,.o (.c f a) _ d nx,st,l,ds=>Cw c.P f a.toArray λv=>dv c n ro nx st (oV d (.t v) l) ds
 |n+1,ro,.o (.rn f a) _ d nx,st,l,ds=>Ut c.P f a λv=>dv c n ro nx st (oV d (.t v) l) ds
 |n+1,ro,.o (.f g a) _ d nx,st,l,ds=>Fw c.P g a λv=>dv c n ro nx st (oV d (.t v) l) ds
 |n+1,ro,.o (.u s) _ d nx,st,l,ds=>Uw c.P s (dv c n ro nx st (oV d (.t undef) l) ds)
 |n+1,ro,.o (.y s) _ d nx,st,l,ds=>Yw c.P s (dv c n ro nx st (oV d (.t undef) l) ds)
 |n+1,ro,.o (.p s) _ d nx,st,l,ds=>Pw c.P s λv=>dv c n ro nx st (oV d (.t v) l) ds
 |n+1,ro,.o (.px s) _ d nx,st,l,ds=>PXw c.P s λv=>dv c n ro nx st (oV d (.t v) l) ds
 |n+1,ro,.o (.w s) i d (.d R dn pd),st,l,ds=>Ww c.P s λv=>dv c n ro (.d R dn ((i,s,v)::pd)) st (oV d (.t v) l) ds
 |n+1,ro,.o (.wx s) i d (.d R dn pd),st,l,ds=>Xo c.P s λv=>dv c n ro (.d R dn ((i,s,v)::pd)) st (oV d (.t v) l) ds
 |n+1,ro,.v [] nx,st,l,ds=>dv c n ro nx st l ds
 |n+1,ro,.v ((_,s,v)::r) nx,st,l,ds=>Ew c.P s v (dv c n ro (.v r nx) st l ds)
 |n+1,ro,.d R dn pd,st,l,ds=>dv c n ro (.f (JM false none R.es dn) R dn pd) st l ds
 |n+1,ro,.f (some e) R dn pd,st,l,ds=>dv c n ro (.g (.r e.i) (Mu R.ops l e.o.guard) e.o (.d R (dn|||e.i) pd)) st l ds
 |n+1,ro,.f none R dn pd,st,l,ds=>dv c n ro (.e (JE dn R.es) R dn pd) st l ds
 |n+1,ro,.e [] _ _ _,st,l,ds=>dv c n ro .s st l ds
 |n+1,ro,.e [e] R dn pd,st,l,ds=>dv c n ro (.g .a (Mu R.ops l e.o.guard) e.o (.d R (dn|||e.i) (NP e.am pd))) st l ds
 |n+1,ro,.e (e::e' ::r) R dn pd,st,l,ds=>Aw (dv c n ro (.g .a (Mu R.ops l e.o.guard) e.o (.d R (dn|||e.i) (NP e.am pd))) st l ds) (dv c n ro (.e (e' ::r) R dn pd) st l ds)
 |n+1,ro,.re [] vs,st,l,ds=>c.K (Qq vs)
 |n+1,ro,.re (.tmp t::r) vs,st,l,ds=>dv c n ro (.re r (ag8 vs (yM false .u l t).v)) st l ds
 |n+1,ro,.re (.cell a t::r) vs,st,l,ds=>dv c n ro (.rb (um c.B t) (yM false .u l a).v t r vs) st l ds
 |n+1,ro,.rb true a t r vs,st,l,ds=>Xo c.P (qm t a) λv=>dv c n ro (.re r (ag8 vs v)) st l ds
 |n+1,ro,.rb false a t r vs,st,l,ds=>Ww c.P (iL t a) λv=>dv c n ro (.re r (ag8 vs v)) st l ds
 |_,_,_,_,_,_=>ui
end Go.Vc
set_option maxRecDepth 100000
namespace Go.Proofs
open Go Go.Vc
def sN{f:FuncId}{fn:Func}{c:Code}{rs:List ResultVar}{xs:LV_}{L:List As}{K:Value->WP}{H:WP}(a:Tryz.prog.funcs[f]? =some fn)(g:Gs L H)
  (d:fn.body=some c:=by exact rfl)(b:fn.results=rs.toArray:=by exact rfl)
  (h:dv ⟨pQ,780437137578998057924726023706815346392291355056326472503586265656282906575705396088125373220878390705057303521779571044483880558217456403873792,23258839177462064731698047172789743042292416494722069412913746125091720897538415800766588902435989027179623079782544797699072901876023296,2644218831704220047948482867069845968386646895354151059412496192997585723836232780021561882989311081045811144364680764456963,rs,K⟩ 100000 none (.c c) [] (Gv 0 xs) none=H:=by
   dsimp only[dv,Sy.v,VM,yM,xy,fZ,pp,yv,DO,RC,oV,Gv,yK,Cx,Jm,HW,RR,Qq,um,JX,Mx,LZ,ub,AM,KD,Sl,Qu,Vg,Kc,QT,Q7,QX,Mu,Vm,wY,FQ,vV,JM,Ia,JE,Oz,NP,Qc,SV,uu,D7,D6,IB,IN,Kk,PH,VG,QD,CB,FU,GO,Jk,JY,OG,VD,WK,VC,wC,N1,I9,uz,Jj,EP,oZ,x8,DN,Cc,NF,Ja,tQ,DP,Es,Nat.reduceMul,Nat.reduceAdd,Nat.reducePow,Nat.reduceAnd,Nat.reduceOr,Nat.reduceShiftRight,Nat.reduceMod,Nat.reduceDiv,Nat.reduceBEq,Nat.reduceSub,ag8,List.cons_append,List.nil_append,VV])
  (ok:Y0 pQ fn xs.length=true:=by kernel_rfl)(e:∀w,PB pQ fn xs w K=H w:=by intro w;kernel_rfl):Gs L (Cw pQ f xs.toArray K):=
 Gs.ca (λw x=>Db Tryz.noNum a ok (by rw[e];exact x)) g
def cN{f:FuncId}{fn:Func}{c:Code}{rs:List ResultVar}{xs:LV_}{w:Wt_}{K:aY}{a H:Prop}(b:Tryz.prog.funcs[f]? =some fn)(g:H)
  (i:fn.body=some c:=by exact rfl)(h:fn.results=rs.toArray:=by exact rfl)
  (j:dv ⟨pQ,780437137578998057924726023706815346392291355056326472503586265656282906575705396088125373220878390705057303521779571044483880558217456403873792,23258839177462064731698047172789743042292416494722069412913746125091720897538415800766588902435989027179623079782544797699072901876023296,2644218831704220047948482867069845968386646895354151059412496192997585723836232780021561882989311081045811144364680764456963,rs,K⟩ 100000 none (.c c) [] (Gv 0 xs) none w=a:=by
   dsimp only[dv,Sy.v,VM,yM,xy,fZ,pp,yv,DO,RC,oV,Gv,yK,Cx,Jm,HW,RR,Qq,um,JX,Mx,LZ,ub,AM,KD,Sl,Qu,Vg,Kc,QT,Q7,QX,Mu,Vm,wY,FQ,vV,JM,Ia,JE,Oz,NP,Qc,SV,uu,D7,D6,IB,IN,Kk,PH,VG,QD,CB,FU,GO,Jk,JY,OG,VD,WK,VC,wC,N1,I9,uz,Jj,EP,oZ,x8,DN,Cc,NF,Ja,tQ,DP,Es,Nat.reduceMul,Nat.reduceAdd,Nat.reducePow,Nat.reduceAnd,Nat.reduceOr,Nat.reduceShiftRight,Nat.reduceMod,Nat.reduceDiv,Nat.reduceBEq,Nat.reduceSub,ag8,List.cons_append,List.nil_append,Ys,YR,Y9,Zh,Zz,Pw,Ww,PXw,Xo,Ew,Dw,Aw,Iw,Bw,Qw,Yx,XE,XL,Zw,Hw,Yr,Zu,XI,ZI,Zx,Zj,ui])
  (d:a=H:=by first|dsimp only[Pr,QR,Ws]|exact rfl)
  (ok:Y0 pQ fn xs.length=true:=by kernel_rfl)(e:PB pQ fn xs w K=H:=by kernel_rfl):Ca pQ f xs.toArray w K:=
 Db Tryz.noNum b ok (by rw[e];exact g)
end Go.Proofs
set_option maxRecDepth 100000
namespace Go.Proofs
open Go Go.Vc
def QK(K:aY)(s116:Value×Value×Unit)(K118:Value×Value×Unit->World->Prop)(s128:Value×Unit)(w129:Wt_):Prop:=
 ∀_:Nat->Value,
 qr s128.1
 (K (gI 6) w129)
 (rv pQ (gx .add 3 true s116.2.1 (gI 1)) w129 λv147 w148=>
 K118 (s116.1,v147,()) w148)
def OT(v72:Vt_)(v0:Vt_)(K:aY)(s75:Unit)(w76:Wt_):Prop:=
 ∀_:Nat->Value,
 rv pQ (iL 130 v72) w76 λv95 w96=>
 ru pQ (iS 130 v0 v95) w96 λw97=>
 l8 pQ (iL 130 v0) w97 λv98=>
 K (.tuple #[v98,(gI 0)]) w97
def QU(s51:Value×Value×Unit)(v24:Vt_)(J50:Value×Value×Unit->World->Prop)(K53:Value×Value×Unit->World->Prop)(s54:Value×Unit)(w55:Wt_):Prop:=
 ∀_:Nat->Value,
 qr s54.1
 (rv pQ (gx .sub 37 true s51.1 (gQ 1)) w55 λv67 w68=>
 rv pQ (gx .add 37 false s51.2.1 v24) w68 λv69 w70=>
 rv pQ (gx .geq 37 true v69 (gQ 4294967296)) w70 λv71 w72=>
 qr v71
 (J50 (v67,v69,()) w72)
 (K53 (v67,v69,()) w72))
 (J50 (s51.1,s51.2.1,()) w55)
def P9(s90:Value×Value×Unit)(v24:Vt_)(J89:Value×Value×Unit->World->Prop)(K92:Value×Value×Unit->World->Prop)(s93:Value×Unit)(w94:Wt_):Prop:=
 ∀_:Nat->Value,
 qr s93.1
 (rv pQ (gx .sub 37 true s90.1 (gQ 1)) w94 λv106 w107=>
 rv pQ (gx .add 37 false s90.2.1 v24) w107 λv108 w109=>
 rv pQ (gx .geq 37 true v108 (gQ 4294967296)) w109 λv110 w111=>
 qr v110
 (J89 (v106,v108,()) w111)
 (K92 (v106,v108,()) w111))
 (J89 (s90.1,s90.2.1,()) w94)
def OQ(v26:Vt_)(v38:Vt_)(v24:Vt_)(J50:Value×Value×Unit->World->Prop)(s51:Value×Value×Unit)(w52:Wt_)(K53:Value×Value×Unit->World->Prop):Prop:=
 ∀_:Nat->Value,
 cG (S:=Value×Unit) (λJ56=>
 rv pQ (gx .geq 37 true s51.1 (gQ 4294967296)) w52 λv57 w58=>
 qr v57
 (J56 ((.bool true),()) w58)
 (rv pQ (gx .mul 37 false s51.1 v26) w58 λv59 w60=>
 rv pQ (gx .mul 37 true (gQ 4294967296) s51.2.1) w60 λv61 w62=>
 rv pQ (gx .add 37 false v61 v38) w62 λv63 w64=>
 rv pQ (gx .gtr 37 false v59 v63) w64 λv65 w66=>
 J56 (v65,()) w66))
 (QU s51 v24 J50 K53)
def OX(v26:Vt_)(v40:Vt_)(v24:Vt_)(J89:Value×Value×Unit->World->Prop)(s90:Value×Value×Unit)(w91:Wt_)(K92:Value×Value×Unit->World->Prop):Prop:=
 ∀_:Nat->Value,
 cG (S:=Value×Unit) (λJ95=>
 rv pQ (gx .geq 37 true s90.1 (gQ 4294967296)) w91 λv96 w97=>
 qr v96
 (J95 ((.bool true),()) w97)
 (rv pQ (gx .mul 37 false s90.1 v26) w97 λv98 w99=>
 rv pQ (gx .mul 37 true (gQ 4294967296) s90.2.1) w99 λv100 w101=>
 rv pQ (gx .add 37 false v100 v40) w101 λv102 w103=>
 rv pQ (gx .gtr 37 false v98 v102) w103 λv104 w105=>
 J95 (v104,()) w105))
 (P9 s90 v24 J89 K92)
def Pg(s4:Value×Value×Unit)(a0:Vt_)(K:aY)(s26:Value×Unit)(w27:Wt_)(K28:Value×Unit->World->Prop):Prop:=
 ∀_:Nat->Value,
 rv pQ (gx .sub 3 true s4.1 (gI 1)) w27 λv29 w30=>
 rv pQ (gx .lss 3 false s26.1 v29) w30 λv31 w32=>
 qr v31
 (g9 pQ (gx .add 3 true s26.1 (gI 1)) λv33=>
 g9 pQ (gx .add 3 true s26.1 (gI 1)) λv34=>
 g9 pQ (iX 23 a0 v34) λv35=>
 l8 pQ (iL 3 v35) w32.drew λv36=>
 g9 pQ (iX 23 a0 s26.1) λv37=>
 l8 pQ (iL 3 v37) w32.drew λv38=>
 g9 pQ (iX 23 a0 s26.1) λv39=>
 ru pQ (iS 3 v39 v36) w32.drew λw40=>
 g9 pQ (iX 23 a0 v33) λv41=>
 ru pQ (iS 3 v41 v38) w40 λw42=>
 rv pQ (gx .add 3 true s26.1 (gI 1)) w42 λv43 w44=>
 K28 (v43,()) w44)
 (K (.tuple #[]) w32)
def Q8(s49:Value×Value×Unit)(a0:Vt_)(K:aY)(s72:Value×Unit)(w73:Wt_)(K74:Value×Unit->World->Prop):Prop:=
 ∀_:Nat->Value,
 rv pQ (gx .gtr 3 false s72.1 s49.1) w73 λv75 w76=>
 qr v75
 (g9 pQ (gx .sub 3 true s72.1 (gI 1)) λv77=>
 g9 pQ (gx .sub 3 true s72.1 (gI 1)) λv78=>
 g9 pQ (iX 23 a0 v78) λv79=>
 l8 pQ (iL 3 v79) w76.drew λv80=>
 g9 pQ (iX 23 a0 s72.1) λv81=>
 l8 pQ (iL 3 v81) w76.drew λv82=>
 g9 pQ (iX 23 a0 s72.1) λv83=>
 ru pQ (iS 3 v83 v80) w76.drew λw84=>
 g9 pQ (iX 23 a0 v77) λv85=>
 ru pQ (iS 3 v85 v82) w84 λw86=>
 rv pQ (gx .sub 3 true s72.1 (gI 1)) w86 λv87 w88=>
 K74 (v87,()) w88)
 (K (.tuple #[]) w76)
def QA(s4:Value×Value×Unit)(a0:Vt_)(K:aY)(s26:Value×Unit)(w27:Wt_)(K28:Value×Unit->World->Prop):Prop:=
 ∀_:Nat->Value,
 rv pQ (gx .sub 3 true s4.1 (gI 1)) w27 λv29 w30=>
 rv pQ (gx .lss 3 false s26.1 v29) w30 λv31 w32=>
 qr v31
 (g9 pQ (gx .add 3 true s26.1 (gI 1)) λv33=>
 g9 pQ (gx .add 3 true s26.1 (gI 1)) λv34=>
 g9 pQ (iX 146 a0 v34) λv35=>
 l8 pQ (iL 130 v35) w32.drew λv36=>
 g9 pQ (iX 146 a0 s26.1) λv37=>
 l8 pQ (iL 130 v37) w32.drew λv38=>
 g9 pQ (iX 146 a0 s26.1) λv39=>
 ru pQ (iS 130 v39 v36) w32.drew λw40=>
 g9 pQ (iX 146 a0 v33) λv41=>
 ru pQ (iS 130 v41 v38) w40 λw42=>
 rv pQ (gx .add 3 true s26.1 (gI 1)) w42 λv43 w44=>
 K28 (v43,()) w44)
 (K (.tuple #[]) w32)
def N5(s49:Value×Value×Unit)(a0:Vt_)(K:aY)(s72:Value×Unit)(w73:Wt_)(K74:Value×Unit->World->Prop):Prop:=
 ∀_:Nat->Value,
 rv pQ (gx .gtr 3 false s72.1 s49.1) w73 λv75 w76=>
 qr v75
 (g9 pQ (gx .sub 3 true s72.1 (gI 1)) λv77=>
 g9 pQ (gx .sub 3 true s72.1 (gI 1)) λv78=>
 g9 pQ (iX 146 a0 v78) λv79=>
 l8 pQ (iL 130 v79) w76.drew λv80=>
 g9 pQ (iX 146 a0 s72.1) λv81=>
 l8 pQ (iL 130 v81) w76.drew λv82=>
 g9 pQ (iX 146 a0 s72.1) λv83=>
 ru pQ (iS 130 v83 v80) w76.drew λw84=>
 g9 pQ (iX 146 a0 v77) λv85=>
 ru pQ (iS 130 v85 v82) w84 λw86=>
 rv pQ (gx .sub 3 true s72.1 (gI 1)) w86 λv87 w88=>
 K74 (v87,()) w88)
 (K (.tuple #[]) w76)
def Rb(v19:Vt_)(v55:Vt_)(J59:Unit->World->Prop)(s74:Value×Unit)(w75:Wt_):Prop:=
 ∀_:Nat->Value,
 qr s74.1
 (rv pQ (iF 412 v19 0) w75 λv99 w100=>
 rv pQ (iF 48 v99 7) w100 λv101 w102=>
 rv pQ (iL 2 v101) w102 λv103 w104=>
 oQ v55 λv105=>rv pQ (iF 477 v105 3) w104 λv106 w107=>
 ru pQ (iS 2 v106 v103) w107 λw108=>
 J59 (()) w108)
 (J59 (()) w75)
def QV(v55:Vt_)(v19:Vt_)(s10:Value×Value×Value×Unit)(K12:Value×Value×Value×Unit->World->Prop)(s57:Unit)(w58:Wt_):Prop:=
 ∀_:Nat->Value,
 oQ v55 λv109=>g9 pQ (iF 477 v109 1) λv110=>
 l8 pQ (iL 2 v110) w58.drew λv111=>
 g9 pQ (iF 412 v19 1) λv112=>
 l8 pQ (iL 2 v112) w58.drew λv113=>
 l8 pQ (Builtin.max_ #[2,2] 2 #[v113,(gI 0)]) w58.drew λv114=>
 g9 pQ (gx .add 2 false v111 v114) λv115=>
 oQ v55 λv116=>g9 pQ (iF 477 v116 1) λv117=>
 ru pQ (iS 2 v117 v115) w58.drew λw118=>
 oQ v55 λv119=>g9 pQ (iF 477 v119 2) λv120=>
 l8 pQ (iL 2 v120) w118.drew λv121=>
 g9 pQ (iF 412 v19 1) λv122=>
 l8 pQ (iL 2 v122) w118.drew λv123=>
 g9 pQ (Op.unary .neg v123) λv124=>
 l8 pQ (Builtin.max_ #[2,2] 2 #[v124,(gI 0)]) w118.drew λv125=>
 g9 pQ (gx .add 2 false v121 v125) λv126=>
 oQ v55 λv127=>g9 pQ (iF 477 v127 2) λv128=>
 ru pQ (iS 2 v128 v126) w118.drew λw129=>
 rv pQ (gx .add 3 true s10.2.2.1 (gI 1)) w129 λv130 w131=>
 K12 (s10.1,s10.2.1,v130,()) w131
def Q5(K:aY)(v19:Vt_)(s10:Value×Value×Value×Unit)(K12:Value×Value×Value×Unit->World->Prop)(v4:Vt_)(s22:Value×Unit)(w23:Wt_):Prop:=
 ∀_:Nat->Value,
 qr s22.1
 (K (.tuple #[(gI 0),(gI 2)]) w23)
 (rv pQ (iF 412 v19 1) w23 λv41 w42=>
 rv pQ (iL 2 v41) w42 λv43 w44=>
 rv pQ (gx .eql 2 true v43 (gI 0)) w44 λv45 w46=>
 qr v45
 (rv pQ (gx .add 3 true s10.2.2.1 (gI 1)) w46 λv47 w48=>
 K12 (s10.1,s10.2.1,v47,()) w48)
 (rv pQ (iF 412 v19 0) w46 λv49 w50=>
 rv pQ (iF 48 v49 1) w50 λv51 w52=>
 rv pQ (iL 5 v51) w52 λv53 w54=>
 rv pQ (iX 478 v4 v53) w54 λv55 w56=>
 cG (S:=Unit) (λJ59=>
 oQ v55 λv60=>g9 pQ (iF 477 v60 0) λv61=>
 l8 pQ (iL 2 v61) w56.drew λv62=>
 g9 pQ (iF 412 v19 0) λv63=>
 g9 pQ (iF 48 v63 6) λv64=>
 BL pQ (qm 46 v64) w56.drew λv65=>
 g9 pQ (iF 412 v19 1) λv66=>
 l8 pQ (iL 2 v66) w56.drew λv67=>
 Ca pQ 373 #[v65,v67] w56.drew λv68 w69=>
 Sem.run pQ (iL 2 v61) w69=.ok v62 w69/\
 (g9 pQ (gx .add 2 false v62 v68) λv70=>
 oQ v55 λv71=>g9 pQ (iF 477 v71 0) λv72=>
 ru pQ (iS 2 v72 v70) w69 λw73=>
 cG (S:=Value×Unit) (λJ76=>
 oQ v55 λv77=>g9 pQ (iF 477 v77 1) λv78=>
 l8 pQ (iL 2 v78) w73.drew λv79=>
 g9 pQ (gx .eql 2 true v79 (gI 0)) λv80=>
 qr v80
 (oQ v55 λv81=>g9 pQ (iF 477 v81 2) λv82=>
 l8 pQ (iL 2 v82) w73.drew λv83=>
 g9 pQ (gx .eql 2 true v83 (gI 0)) λv84=>
 qr v84
 (J76 ((.bool true),()) w73.drew)
 (g9 pQ (iF 412 v19 0) λv85=>
 g9 pQ (iF 48 v85 7) λv86=>
 l8 pQ (iL 2 v86) w73.drew λv87=>
 oQ v55 λv88=>g9 pQ (iF 477 v88 3) λv89=>
 l8 pQ (iL 2 v89) w73.drew λv90=>
 g9 pQ (gx .lss 2 false v87 v90) λv91=>
 J76 (v91,()) w73.drew))
 (g9 pQ (iF 412 v19 0) λv92=>
 g9 pQ (iF 48 v92 7) λv93=>
 l8 pQ (iL 2 v93) w73.drew λv94=>
 oQ v55 λv95=>g9 pQ (iF 477 v95 3) λv96=>
 l8 pQ (iL 2 v96) w73.drew λv97=>
 g9 pQ (gx .lss 2 false v94 v97) λv98=>
 J76 (v98,()) w73.drew))
 (Rb v19 v55 J59)))
 (QV v55 v19 s10 K12)))
def SH(v244:Vt_)(v237:Vt_)(v0:Vt_)(v2:Vt_)(a0:Vt_)(v10:Vt_)(mk229:List Nat)(K:Value->WP)(a4:Vt_)(s246:Value×Value×Unit)(K248:Value×Value×Unit->World->Prop):WP:=
 Zw <|
 Vw pQ (gx .lss 3 false s246.2.1 v244) λv249=>
 Iw v249
 (Vw pQ (iX 392 v237 s246.2.1) λv251=>
 Vw pQ (iL 394 v251) λv253=>
 Vw pQ (iA 394 true (.tuple #[])) λv255=>
 Uw pQ (iS 394 v255 v253) <|
 Xw pQ (qm 120 v0) λv258=>
 Vw pQ (iL 45 v2) λv260=>
 Vw pQ (iF 394 v255 0) λv262=>
 Vw pQ (iL 45 v262) λv264=>
 Vw pQ (iF 120 v0 2) λv266=>
 Vw pQ (iL 2 v266) λv268=>
 Vw pQ (iF 394 v255 1) λv270=>
 Vw pQ (iL 2 v270) λv272=>
 Cw pQ 276 #[a0,v258,v260,v264,v10,v268,v272] λv274=>
 Vw pQ (gx .neq 29 true v274 (gI 0)) λv276=>
 Iw v276
 (Tw (mk229++[]) <|
 K v274)
 (Dw <|
 Qw a4 λv279=>Pw pQ (iF 42 v279 3) λv280=>
 Ww pQ (iL 2 v280) λv281=>
 Pw pQ (iF 394 v255 1) λv282=>
 Ww pQ (iL 2 v282) λv283=>
 Pw pQ (gx .add 2 false v281 v283) λv284=>
 Qw a4 λv285=>Pw pQ (iF 42 v285 3) λv286=>
 Uw pQ (iS 2 v286 v284) <|
 Dw <|
 Qw a4 λv288=>Pw pQ (iF 42 v288 4) λv289=>
 Ww pQ (iL 38 v289) λv290=>
 Pw pQ (iF 120 v0 2) λv291=>
 Ww pQ (iL 2 v291) λv292=>
 Pw pQ (iF 394 v255 1) λv293=>
 Ww pQ (iL 2 v293) λv294=>
 Pw pQ (iF 394 v255 0) λv295=>
 Ww pQ (iL 45 v295) λv296=>
 Pw pQ (Instr.build 148 #[(0,v292),(1,v294),(3,v296)]) λv297=>
 Xw pQ (pN 38 1 [(0,v297)]) λv298=>
 Ew pQ (iL 38 v289) v290 <|
 (Xw pQ (eZ #[38,38] 38 [v290,v298]) λv300=>
 Qw a4 λv302=>Pw pQ (iF 42 v302 4) λv303=>
 Uw pQ (iS 38 v303 v300) <|
 Vw pQ (gx .add 3 true s246.2.1 (gI 1)) λv305=>
 K248 (s246.1,v305,()))))
 (Tw (mk229++[]) <|
 K (gI 0))
def RD(v323:Vt_)(v316:Vt_)(v0:Vt_)(v2:Vt_)(a0:Vt_)(v10:Vt_)(mk229:List Nat)(K:Value->WP)(a4:Vt_)(s325:Value×Value×Unit)(K327:Value×Value×Unit->World->Prop):WP:=
 Zw <|
 Vw pQ (gx .lss 3 false s325.2.1 v323) λv328=>
 Iw v328
 (Vw pQ (iX 392 v316 s325.2.1) λv330=>
 Vw pQ (iL 394 v330) λv332=>
 Vw pQ (iA 394 true (.tuple #[])) λv334=>
 Uw pQ (iS 394 v334 v332) <|
 Xw pQ (qm 120 v0) λv337=>
 Vw pQ (iL 45 v2) λv339=>
 Vw pQ (iF 394 v334 0) λv341=>
 Vw pQ (iL 45 v341) λv343=>
 Vw pQ (iF 120 v0 2) λv345=>
 Vw pQ (iL 2 v345) λv347=>
 Vw pQ (iF 394 v334 1) λv349=>
 Vw pQ (iL 2 v349) λv351=>
 Cw pQ 276 #[a0,v337,v339,v343,v10,v347,v351] λv353=>
 Vw pQ (gx .neq 29 true v353 (gI 0)) λv355=>
 Iw v355
 (Tw (mk229++[]) <|
 K v353)
 (Dw <|
 Qw a4 λv358=>Pw pQ (iF 42 v358 3) λv359=>
 Ww pQ (iL 2 v359) λv360=>
 Pw pQ (iF 394 v334 1) λv361=>
 Ww pQ (iL 2 v361) λv362=>
 Pw pQ (gx .add 2 false v360 v362) λv363=>
 Qw a4 λv364=>Pw pQ (iF 42 v364 3) λv365=>
 Uw pQ (iS 2 v365 v363) <|
 Dw <|
 Qw a4 λv367=>Pw pQ (iF 42 v367 4) λv368=>
 Ww pQ (iL 38 v368) λv369=>
 Pw pQ (iF 120 v0 2) λv370=>
 Ww pQ (iL 2 v370) λv371=>
 Pw pQ (iF 394 v334 1) λv372=>
 Ww pQ (iL 2 v372) λv373=>
 Pw pQ (iF 394 v334 0) λv374=>
 Ww pQ (iL 45 v374) λv375=>
 Pw pQ (Instr.build 148 #[(0,v371),(1,v373),(3,v375)]) λv376=>
 Xw pQ (pN 38 1 [(0,v376)]) λv377=>
 Ew pQ (iL 38 v368) v369 <|
 (Xw pQ (eZ #[38,38] 38 [v369,v377]) λv379=>
 Qw a4 λv381=>Pw pQ (iF 42 v381 4) λv382=>
 Uw pQ (iS 38 v382 v379) <|
 Vw pQ (gx .add 3 true s325.2.1 (gI 1)) λv384=>
 K327 (s325.1,v384,()))))
 (Tw (mk229++[]) <|
 K (gI 0))
def RZ(v186:Vt_)(s179:Value×Unit)(K:Value->WP)(v0:Vt_)(v2:Vt_)(a0:Vt_)(v10:Vt_)(a4:Vt_)(s65:Value×Value×Value×Unit)(mk229:List Nat)(pd230:Option Code):WP:=
 jx
 (Vw pQ (iL 392 v186) λv233=>
 Cw pQ 278 #[s179.1,v233] λv235=>
 Vw pQ (Instr.extract v235 0) λv237=>
 Vw pQ (Instr.extract v235 1) λv239=>
 Vw pQ (gx .neq 29 true v239 (gI 0)) λv241=>
 Iw v241
 (Tw (mk229++[]) <|
 K v239)
 (Nw pQ (builtin .len #[392] 3 #[false] #[v237]) λv244=>
 Lw (S:=Value×Value×Unit) (SH v244 v237 v0 v2 a0 v10 mk229 K a4) (s65.1,(gI 0),())))
 (Tw (mk229++[]) <|
 K s65.1)
 (λi311=>
 Hw (Nat.beq i311 4)
 (Vw pQ (iL 392 v186) λv312=>
 Cw pQ 278 #[s179.1,v312] λv314=>
 Vw pQ (Instr.extract v314 0) λv316=>
 Vw pQ (Instr.extract v314 1) λv318=>
 Vw pQ (gx .neq 29 true v318 (gI 0)) λv320=>
 Iw v320
 (Tw (mk229++[]) <|
 K v318)
 (Nw pQ (builtin .len #[392] 3 #[false] #[v316]) λv323=>
 Lw (S:=Value×Value×Unit) (RD v323 v316 v0 v2 a0 v10 mk229 K a4) (s65.1,(gI 0),())))
 ((λ_=>False))) pd230
def Tq(v2:Vt_)(v186:Vt_)(l195:Nat)(x196:LV_)(KN198:World->Prop)(KJ199:Code->World->Prop):WP:=
 Vw pQ (iA 124 true (.tuple #[])) λv200=>
 Uw pQ (iS 124 v200 (x196.getD 0 undef)) <|
 Gw l195 <|
 Vw pQ (iF 124 v200 1) λv204=>
 Vw pQ (iL 45 v204) λv206=>
 Vw pQ (iL 45 v2) λv208=>
 Vw pQ (gx .neq 45 false v206 v208) λv210=>
 Iw v210
 (Vw pQ (iL 392 v186) λv212=>
 Vw pQ (iF 124 v200 1) λv214=>
 Vw pQ (iL 45 v214) λv216=>
 Vw pQ (iF 124 v200 2) λv218=>
 Vw pQ (iL 2 v218) λv220=>
 Vw pQ (Instr.build 394 #[(0,v216),(1,v220)]) λv222=>
 Xw pQ (pN 392 1 [(0,v222)]) λv224=>
 Xw pQ (eZ #[392,392] 392 [v212,v224]) λv226=>
 Uw pQ (iS 392 v186 v226) <|
 KN198)
 (KN198)
def Ke(a0:Vt_)(v8:Vt_)(v2:Vt_)(K:Value->WP)(v0:Vt_)(v10:Vt_)(a4:Vt_)(s65:Value×Value×Value×Unit)(s179:Value×Unit):WP:=
 Zw <|
 Vw pQ (iA 392 true (.tuple #[])) λv186=>
 Qw a0 λv188=>Vw pQ (iF 93 v188 1) λv189=>
 Vw pQ (iL 88 v189) λv191=>
 Cw pQ 60 #[v191,v8] λv193=>
 Rw pQ none v193 1 (Tq v2 v186) (RZ v186 s179 K v0 v2 a0 v10 a4 s65)
def RA(v63:Vt_)(v57:Vt_)(v0:Vt_)(v2:Vt_)(a0:Vt_)(v10:Vt_)(v55:Vt_)(K:Value->WP)(a4:Vt_)(v8:Vt_)(s65:Value×Value×Value×Unit)(K67:Value×Value×Value×Unit->World->Prop):WP:=
 Zw <|
 Vw pQ (gx .lss 3 false s65.2.2.1 v63) λv68=>
 Iw v68
 (Vw pQ (iX 386 v57 s65.2.2.1) λv70=>
 Vw pQ (iL 390 v70) λv72=>
 Vw pQ (iA 390 true (.tuple #[])) λv74=>
 Uw pQ (iS 390 v74 v72) <|
 Xw pQ (qm 120 v0) λv77=>
 Vw pQ (iL 45 v2) λv79=>
 Vw pQ (iF 390 v74 1) λv81=>
 Vw pQ (iL 45 v81) λv83=>
 Vw pQ (iF 390 v74 2) λv85=>
 Vw pQ (iL 2 v85) λv87=>
 Cw pQ 276 #[a0,v77,v79,v83,v10,v55,v87] λv89=>
 Vw pQ (gx .neq 29 true v89 (gI 0)) λv91=>
 Iw v91
 (K v89)
 (Vw pQ (iF 390 v74 2) λv93=>
 Vw pQ (iL 2 v93) λv95=>
 Vw pQ (gx .sub 2 false s65.2.1 v95) λv97=>
 Dw <|
 Qw a4 λv99=>Pw pQ (iF 42 v99 2) λv100=>
 Ww pQ (iL 2 v100) λv101=>
 Pw pQ (iF 390 v74 2) λv102=>
 Ww pQ (iL 2 v102) λv103=>
 Pw pQ (gx .add 2 false v101 v103) λv104=>
 Qw a4 λv105=>Pw pQ (iF 42 v105 2) λv106=>
 Uw pQ (iS 2 v106 v104) <|
 Dw <|
 Qw a4 λv108=>Pw pQ (iF 42 v108 4) λv109=>
 Ww pQ (iL 38 v109) λv110=>
 Pw pQ (iF 390 v74 2) λv111=>
 Ww pQ (iL 2 v111) λv112=>
 Pw pQ (iF 390 v74 0) λv113=>
 Ww pQ (iL 37 v113) λv114=>
 Pw pQ (iF 390 v74 1) λv115=>
 Ww pQ (iL 45 v115) λv116=>
 Pw pQ (Instr.build 148 #[(0,v55),(1,v112),(2,v114),(3,v116)]) λv117=>
 Xw pQ (pN 38 1 [(0,v117)]) λv118=>
 Ew pQ (iL 38 v109) v110 <|
 (Xw pQ (eZ #[38,38] 38 [v110,v118]) λv120=>
 Qw a4 λv122=>Pw pQ (iF 42 v122 4) λv123=>
 Uw pQ (iS 38 v123 v120) <|
 Qw a0 λv125=>Vw pQ (iF 93 v125 3) λv126=>
 Vw pQ (iL 91 v126) λv128=>
 Xw pQ (ju 91 v128 v8 false) λv130=>
 Cw pQ 213 #[v130,(.func (.func 277) #[] #[v74])] λv132=>
 Dw <|
 Qw a0 λv134=>Pw pQ (iF 93 v134 3) λv135=>
 Ww pQ (iL 91 v135) λv136=>
 Xo pQ (ju 91 v136 v8 false) λv137=>
 Pw pQ (iX 146 v137 v132) λv138=>
 Pw pQ (iF 130 v138 4) λv139=>
 Ww pQ (iL 2 v139) λv140=>
 Pw pQ (iF 390 v74 2) λv141=>
 Ww pQ (iL 2 v141) λv142=>
 Pw pQ (gx .sub 2 false v140 v142) λv143=>
 Pw pQ (iX 146 v137 v132) λv144=>
 Pw pQ (iF 130 v144 4) λv145=>
 Uw pQ (iS 2 v145 v143) <|
 Qw a0 λv147=>Vw pQ (iF 93 v147 3) λv148=>
 Vw pQ (iL 91 v148) λv150=>
 Xw pQ (ju 91 v150 v8 false) λv152=>
 Vw pQ (iX 146 v152 v132) λv154=>
 Vw pQ (iF 130 v154 4) λv156=>
 Vw pQ (iL 2 v156) λv158=>
 Vw pQ (gx .eql 2 true v158 (gI 0)) λv160=>
 Iw v160
 (Dw <|
 Qw a0 λv162=>Pw pQ (iF 93 v162 3) λv163=>
 Ww pQ (iL 91 v163) λv164=>
 Qw a0 λv165=>Pw pQ (iF 93 v165 3) λv166=>
 Ww pQ (iL 91 v166) λv167=>
 Xo pQ (ju 91 v167 v8 false) λv168=>
 Pw pQ (gx .add 3 true v132 (gI 1)) λv169=>
 Cw pQ 215 #[v168,v132,v169] λv170=>
 Ew pQ (iL 91 v163) v164 <|
 (Yw pQ (qw 91 v164 v8 v170) <|
 Vw pQ (gx .add 3 true s65.2.2.1 (gI 1)) λv173=>
 K67 (s65.1,v97,v173,())))
 (Vw pQ (gx .add 3 true s65.2.2.1 (gI 1)) λv175=>
 K67 (s65.1,v97,v175,())))))
 (Vw pQ (gx .eql 2 true s65.2.1 (gI 0)) λv177=>
 Iw v177
 (K (gI 0))
 (Jw (S:=Value×Unit) (λJ181=>
 Vw pQ (Op.unary .not v10) λv182=>
 Iw v182
 (Vw pQ (Op.unary .neg s65.2.1) λv184=>
 J181 (v184,()))
 (J181 (s65.2.1,())))
 (Ke a0 v8 v2 K v0 v10 a4 s65)))
def Pb(K:aY)(v2:Vt_)(s6:Value×Unit)(w7:Wt_):Prop:=
 ∀_:Nat->Value,
 qr s6.1
 (K (.bool false) w7)
 (Ca pQ 17 #[v2] w7 λv27 w28=>
 rv pQ (iA 58 true (.tuple #[])) w28 λv29 w30=>
 ru pQ (iS 58 v29 v27) w30 λw31=>
 g9 pQ (iF 58 v29 3) λv32=>
 l8 pQ (iL 53 v32) w31.drew λv33=>
 l8 pQ (Builtin.len_ #[53] 3 #[v33]) w31.drew λv34=>
 g9 pQ (gx .eql 3 true v34 (gI 2)) λv35=>
 qr v35
 (g9 pQ (iF 58 v29 3) λv36=>
 l8 pQ (iL 53 v36) w31.drew λv37=>
 g9 pQ (iX 53 v37 (gI 0)) λv38=>
 g9 pQ (iF 100 v38 1) λv39=>
 l8 pQ (iL 2 v39) w31.drew λv40=>
 g9 pQ (gx .eql 2 true v40 (gI 1030)) λv41=>
 qr v41
 (g9 pQ (iF 58 v29 3) λv42=>
 l8 pQ (iL 53 v42) w31.drew λv43=>
 g9 pQ (iX 53 v43 (gI 1)) λv44=>
 g9 pQ (iF 100 v44 1) λv45=>
 l8 pQ (iL 2 v45) w31.drew λv46=>
 g9 pQ (gx .eql 2 true v46 (gI 970)) λv47=>
 qr v47
 (DI pQ (Bs 51 #[(0,(gB 2)),(1,(gU 1)),(4,(gI 1016))]) λv48=>
 Ca pQ 15 #[v2,v48] w31.drew λv49 w50=>
 g9 pQ (Instr.field 42 v49 0) λv51=>
 g9 pQ (gx .eql 29 true v51 (gI 161)) λv52=>
 qr v52
 (g9 pQ (Instr.build 42 #[(0,(gI 160))]) λv53=>
 rx pQ (pN 28 1 [(0,(gB 99))]) w50 λv54 w55=>
 Ca pQ 13 #[v2,v54] w55 λv56 w57=>
 BL pQ (rI 28 9 v56) w57 λv58=>
 Ca pQ 46 #[v53] w57 λv59 w60=>
 Sem.run pQ (rI 28 9 v56) w60=.ok v58 w60/\
 (BL pQ (rI 28 9 v59) w60 λv61=>
 g9 pQ (gx .eql 9 false v58 v61) λv62=>
 K v62 w60))
 (K (.bool false) w50))
 (K (.bool false) w31.drew))
 (K (.bool false) w31.drew))
 (K (.bool false) w31.drew))
def UX(a0:Vt_)(K:aY)(v6:Vt_)(v4:Vt_)(s10:Value×Unit)(w11:Wt_):Prop:=
 ∀_:Nat->Value,
 rv pQ (gx .neq 29 true s10.1 (gI 0)) w11 λv20 w21=>
 qr v20
 (oQ a0 λv22=>rv pQ (iF 260 v22 2) w21 λv23 w24=>
 ru pQ (iS 29 v23 s10.1) w24 λw25=>
 K (gQ 0) w25)
 (oQ a0 λv26=>rv pQ (iF 260 v26 1) w21 λv27 w28=>
 ru pQ (iS 3 v27 v6) w28 λw29=>
 K v4 w29)
def Uv(J88:Value×Unit->World->Prop)(s74:Value×Value×Value×Unit)(s89:Value×Unit)(w90:Wt_):Prop:=
 ∀_:Nat->Value,
 qr s89.1
 (J88 ((gQ 0),()) w90)
 (J88 (s74.2.1,()) w90)
def Ud(K:aY)(v83:Vt_)(a0:Vt_)(s74:Value×Value×Value×Unit)(K76:Value×Value×Value×Unit->World->Prop)(s102:Value×Unit)(w103:Wt_):Prop:=
 ∀_:Nat->Value,
 qr s102.1
 (K (.bool false) w103)
 (rv pQ (iF 132 v83 1) w103 λv121 w122=>
 rv pQ (iF 130 v121 0) w122 λv123 w124=>
 rv pQ (iL 37 v123) w124 λv125 w126=>
 oQ a0 λv127=>g9 pQ (iF 93 v127 3) λv128=>
 l8 pQ (iL 91 v128) w126.drew λv129=>
 g9 pQ (iF 132 v83 0) λv130=>
 l8 pQ (iL 45 v130) w126.drew λv131=>
 oQ a0 λv132=>g9 pQ (iF 93 v132 3) λv133=>
 l8 pQ (iL 91 v133) w126.drew λv134=>
 g9 pQ (iF 132 v83 0) λv135=>
 l8 pQ (iL 45 v135) w126.drew λv136=>
 BL pQ (ju 91 v134 v136 false) w126.drew λv137=>
 g9 pQ (iF 132 v83 1) λv138=>
 l8 pQ (iL 130 v138) w126.drew λv139=>
 rx pQ (pN 146 1 [(0,v139)]) w126.drew λv140 w141=>
 Sem.run pQ (ju 91 v134 v136 false) w141=.ok v137 w141/\Sem.run pQ (iL 45 v135) w141=.ok v136 w141/\Sem.run pQ (iL 91 v133) w141=.ok v134 w141/\Sem.run pQ (iL 45 v130) w141=.ok v131 w141/\Sem.run pQ (iL 91 v128) w141=.ok v129 w141/\
 (rx pQ (eZ #[146,146] 146 [v137,v140]) w141 λv142 w143=>
 Sem.run pQ (iL 45 v130) w143=.ok v131 w143/\Sem.run pQ (iL 91 v128) w143=.ok v129 w143/\
 (vD pQ (qw 91 v129 v131 v142) w143 λw144=>
 rv pQ (gx .add 3 true s74.2.2.1 (gI 1)) w144 λv145 w146=>
 K76 (s74.1,v125,v145,()) w146)))
def UD(v83:Vt_)(a0:Vt_)(v2:Vt_)(K:aY)(s74:Value×Value×Value×Unit)(K76:Value×Value×Value×Unit->World->Prop)(s86:Value×Unit)(w87:Wt_):Prop:=
 ∀_:Nat->Value,
 cG (S:=Value×Unit) (λJ104=>
 l8 pQ (iL 132 v83) w87.drew λv105=>
 Ca pQ 154 #[a0,v105,(.bool false),v2] w87.drew λv106 w107=>
 g9 pQ (Op.unary .not v106) λv108=>
 qr v108
 (J104 ((.bool true),()) w107)
 (g9 pQ (iF 132 v83 1) λv109=>
 g9 pQ (iF 130 v109 0) λv110=>
 l8 pQ (iL 37 v110) w107 λv111=>
 g9 pQ (gx .leq 37 false v111 s86.1) λv112=>
 qr v112
 (J104 ((.bool true),()) w107)
 (oQ a0 λv113=>g9 pQ (iF 93 v113 3) λv114=>
 l8 pQ (iL 91 v114) w107 λv115=>
 g9 pQ (iF 132 v83 0) λv116=>
 l8 pQ (iL 45 v116) w107 λv117=>
 BL pQ (ju 91 v115 v117 false) w107 λv118=>
 l8 pQ (Builtin.len_ #[146] 3 #[v118]) w107 λv119=>
 g9 pQ (gx .geq 3 true v119 (gI 50)) λv120=>
 J104 (v120,()) w107)))
 (Ud K v83 a0 s74 K76)
def UH(v72:Vt_)(v70:Vt_)(v0:Vt_)(a0:Vt_)(v2:Vt_)(K:aY)(s74:Value×Value×Value×Unit)(w75:Wt_)(K76:Value×Value×Value×Unit->World->Prop):Prop:=
 ∀_:Nat->Value,
 rv pQ (gx .lss 3 false s74.2.2.1 v72) w75 λv77 w78=>
 qr v77
 (rv pQ (iX 56 v70 s74.2.2.1) w78 λv79 w80=>
 rv pQ (iL 132 v79) w80 λv81 w82=>
 rv pQ (iA 132 true (.tuple #[])) w82 λv83 w84=>
 ru pQ (iS 132 v83 v81) w84 λw85=>
 cG (S:=Value×Unit) (λJ88=>
 cG (S:=Value×Unit) (λJ91=>
 g9 pQ (gx .gtr 3 true s74.2.2.1 (gI 0)) λv92=>
 qr v92
 (g9 pQ (iF 132 v83 0) λv93=>
 l8 pQ (iL 45 v93) w85.drew λv94=>
 g9 pQ (iF 58 v0 7) λv95=>
 l8 pQ (iL 56 v95) w85.drew λv96=>
 g9 pQ (gx .sub 3 true s74.2.2.1 (gI 1)) λv97=>
 g9 pQ (iX 56 v96 v97) λv98=>
 g9 pQ (iF 132 v98 0) λv99=>
 l8 pQ (iL 45 v99) w85.drew λv100=>
 g9 pQ (gx .neq 45 false v94 v100) λv101=>
 J91 (v101,()) w85.drew)
 (J91 ((.bool false),()) w85.drew))
 (Uv J88 s74))
 (UD v83 a0 v2 K s74 K76))
 (K (.bool true) w78)
end Go.Proofs
namespace Go.Vc
variable {n:Nat}
def nh(n:Nat):List UInt8:=if n<128 then [UInt8.ofNat n]else UInt8.ofNat (n%128+128)::nh (n / 128)
 termination_by n
 decreasing_by omega
def tB(h:n<128):nh n=[UInt8.ofNat n]:=by rw[nh,ae h]
def zC(h:¬n<128):nh n=UInt8.ofNat (n%128+128)::nh (n / 128):=by rw[nh,aa h]
def E9:∀(k n:Nat),n<128 ^ (k+1)->(nh n).length<=k+1
 |0,n,h=>by rw[tB (by simpa using h)];simp
 |k+1,n,h=>by
  by_cases h1:n<128
  ·rw[tB h1];simp
  ·rw[zC h1];have:=E9 k (n / 128) (by grind);simp only[be];omega
def AA(h:n<18446744073709551616):(nh n).length<=10:=E9 9 n (bJ h (by decide))
def JZ(h:n<256):(UInt8.ofNat n).toNat=n:=by simp;omega
def Hc:List UInt8->Nat->Nat->Except Nat (Nat×Nat)
 | [],_,_=>.error 4
 |x::r,k,acc=>
  if k=9/\1<x.toNat\/9<k then .error 5
  else if x.toNat<128 then(if x.toNat=0/\0<k then .error 5 else .ok (acc+x.toNat%128*128 ^ k,k+1))
  else Hc r (k+1) (acc+x.toNat%128*128 ^ k)
def vZ:∀(l:List UInt8) (k acc n m:Nat),Hc l k acc=.ok (n,m)->k<=9->
  ∃d,n=acc+d*128 ^ k/\m=k+(nh d).length/\(nh d).length<=l.length/\l.take (nh d).length=nh d/\(0<d\/k=0)/\d*128 ^ k<18446744073709551616
 | [],_,_,_,_,h,_=>by cases h
 |x::r,k,acc,n,m,h,G=>by
  have I:=x.toNat_lt;simp only[Hc]at h;by_cases p:k=9/\1<x.toNat\/9<k
  ·grind
  rw[aa p]at h;have b:UInt8.ofNat x.toNat=x:=by simp
  have v:128 ^ k*128 ^ (9 - k)=9223372036854775808:=by
   rw[<-my,show k+(9 - k)=9 by omega]
  by_cases h1:x.toNat<128
  ·rw[ae h1]at h;by_cases u:x.toNat=0/\0<k
   ·grind
   rw[aa u]at h;cases h;refine⟨x.toNat,by grind,?_,?_,?_,by omega,?_⟩
   ·rw[tB h1];rfl
   ·rw[tB h1];simp
   ·rw[tB h1,b];simp
   ·by_cases z:k=9
    ·grind
    ·have C:128 ^ k<=128 ^ 8:=iO (by decide) (by omega);have H:=fL (show x.toNat<=127 by omega) C;have e:(127:Nat)*128 ^ 8<18446744073709551616:=by decide
     omega
  ·rw[aa h1]at h;have A:k≠9:=λe=>p (.inl ⟨e,by omega⟩);obtain⟨d,f,t,w,i,E,B⟩:=vZ r (k+1) _ n m h (by omega);have s:0<d:=by omega
   have y:(x.toNat%128+d*128) / 128=d:=by omega
   have o:(x.toNat%128+d*128)%128+128=x.toNat:=by omega
   have j:nh (x.toNat%128+d*128)=x::nh d:=by rw[zC (by omega),y,o,b]
   have q:(x.toNat%128+d*128)*128 ^ k=x.toNat%128*128 ^ k+d*128 ^ (k+1):=by
    rw[er,Nat.pow_succ,eE (128 ^ k) 128,iw]
   refine⟨x.toNat%128+d*128,?_,?_,?_,?_,by omega,?_⟩
   ·rw[f,q];omega
   ·grind
   ·grind
   ·rw[j];simp[i]
   ·rw[q]
    have D:x.toNat%128*128 ^ k<128 ^ (k+1):=by
     rw[Nat.pow_succ,eE];exact Nat.mul_lt_mul_of_pos_left (gp _ (by decide)) (Nat.pow_pos (by decide))
    have a:128 ^ (k+1)*128 ^ (8 - k)=9223372036854775808:=by
     rw[<-my,show k+1+(8 - k)=9 by omega]
    have g:d<2*128 ^ (8 - k):=by
     apply aI;intro F;have:=cF (128 ^ (k+1)) (jg F);rw[iw,eE (128 ^ (8 - k)),a]at this;omega
    have c:=cF (128 ^ (k+1)) (show d+1<=2*128 ^ (8 - k)from g);rw[iw,eE (128 ^ (8 - k)),a,er]at c;omega
def Re{l:List UInt8}{m:Nat}(h:Hc l 0 0=.ok (n,m)):m=(nh n).length/\m<=l.length/\l.take m=nh n/\n<18446744073709551616:=by
 obtain⟨d,h1,b,e,c,_,a⟩:=vZ l 0 0 n m h (by omega);simp only[Nat.pow_zero,oD,cM]at h1 b a;subst h1;subst b;exact⟨rfl,e,c,a⟩
structure Rs where
 at_:Nat
 e:Nat
def qP(l:List UInt8)(most:Nat)(s:Rs):Nat×Rs:=
 if s.e≠0 then(0,s)else
 match Hc (l.drop s.at_) 0 0 with
 | .error e=>(0,{s with e:=e})
 | .ok (n,k)=>if most<n then(0,{s with e:=5})else(n,{s with at_:=s.at_+k})
def Eo(l:List UInt8)(s:Rs):Nat:=if s.e=0/\s.at_<l.length then 5 else s.e
structure Tn where
 c:Nat
 q:Nat
 b:List UInt8
def Tn.May(o:Tn):Prop:=o.c<64/\o.q≠0/\o.b.length<=2000
instance(o:Tn):Decidable o.May:=by unfold Tn.May;infer_instance
end Go.Vc
