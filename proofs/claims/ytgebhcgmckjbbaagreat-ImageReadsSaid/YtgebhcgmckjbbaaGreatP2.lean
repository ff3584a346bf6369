/- Part of a proof. -/
import Derived.Scope
import Derived.WalkKit
import Derived.WalkLawsBesides
import Derived.RowKit3
import Derived.Laws.Cover3
import Derived.Test.YtgebhcgmckjbbaaGreatP1
set_option linter.all false
namespace Go.Vc
open Go Go.Vc
def d8:Code->List Nat
 | .region _ ops _=>ops.toList.filterMap (·.dst)
 | .seq a b=>d8 a++d8 b
 | .cond _ a b=>d8 a++d8 b
 | .block _ c=>d8 c
 | .loop c=>d8 c
 | .scope c=>d8 c
 |_=>[]
def gV:Code->Bool
 | .seq a b=>gV a||gV b
 | .cond _ a b=>gV a||gV b
 | .block _ c=>gV c
 | .loop c=>gV c
 | .scope c=>gV c
 | .rangeFunc .. =>true
 |_=>false
def dW(ds:List Nat):List (Nat×Option Value)->List Nat->List Nat
 | [],acc=>acc
 |(k,_)::r,acc=>
  match ds.contains k&& !acc.contains k with
  |true=>dW ds r (k::acc)
  |false=>dW ds r acc
def DZ:List Nat->Type
 | []=>Unit
 |_::l=>Value×DZ l
def fT(E:dC):(l:List Nat)->DZ l
 | []=>()
 |t::l=>(E.get t,fT E l)
def kI:(l:List Nat)->DZ l->List (Nat×Option Value)->List (Nat×Option Value)
 | [],_,r=>r
 |t::l,s,r=>(t,some s.1)::kI l s.2 r
def su{α:Type}{β:Sort _}:List α->(List α->β)->β
 | [],k=>k []
 |x::xs,k=>su xs λl=>k (x::l)
def nN{α:Type}{β:Sort _}:∀(l:List α) (k:List α->β),su l k=k l
 | [],_=>rfl
 |x::a,k=>by rw[su,nN a]
def EV:Operand->Option Nat
 | .tmp t=>some t
 |_=>none
def kQ:Code->List Nat
 | .region _ ops _=>ops.toList.flatMap λo=>o.op.operands.toList.filterMap EV
 | .seq a b=>kQ a++kQ b
 | .cond c a b=>(EV c).toList++kQ a++kQ b
 | .block _ c=>kQ c
 | .loop c=>kQ c
 | .scope c=>kQ c
 | .rangeFunc gv _ a b=>(EV gv).toList++kQ a++kQ b
 |_=>[]
def xC(ds:List Nat):List Nat->List Nat->List Nat
 | [],acc=>acc
 |k::r,acc=>
  match ds.contains k&& !acc.contains k with
  |true=>xC ds r (k::acc)
  |false=>xC ds r acc
def CH(ds:List Nat)(l:List (Nat×Option Value))(us:List Nat):List Nat:=xC ds us (dW ds l [])
def wZ:Nat->Nat
 |0=>0
 |1=>1
 |_=>2
def O0:Code->Nat
 | .region _ ops _=>ops.toList.length
 | .seq a b=>O0 a+O0 b
 | .cond _ _ _=>9
 | .block _ c=>O0 c
 | .loop _=>9
 | .rangeFunc _ _ _ _=>9
 |_=>0
def Sf:Op->Bool
 | .alloc _=>true
 | .box _ _=>true
 | .buildSlice _ _ _=>true
 | .makeSlice _ _ _=>true
 | .makeMap _ _=>true
 | .call _=>true
 | .store _ _ _=>true
 | .mapUpdate _ _ _ _=>true
 | .insert _ _ _ _=>true
 | .mapEntry _ _ _=>true
 | .entryStore _ _ _ _=>true
 |_=>false
def IH(ops:List Oper):Bool:=
 let es:=(List.range ops.length).filter λi=>match ops[i]? with|some o=>Sf o.op|none=>false
 es.any λj=>su (u6 ops j) λaj=>es.any λi=>Nat.blt i j&& !aj.contains i&& !(u6 ops i).contains j
def Ao:Code->Option Nat->Nat
 | .region _ ops draw,i=>match i with
  |none=>match (ops.toList.any λo=>o.guard.isSome)||(draw&& IH ops.toList)with|true=>2|false=>1
  |some _=>0
 | .seq a b,i=>
  let na:=match Nat.ble 2 (Ao a none)&& !gV a&& Nat.ble 3 (O0 b)with|true=>1|false=>Ao a none
  match i with
  |none=>wZ (na*Ao b none)
  |some i=>wZ (Ao a (some i)+na*Ao b (some i))
 | .cond _ a b,i=>wZ (Ao a i+Ao b i)
 | .block id c,i=>match i with
  |none=>wZ (Ao c none+Ao c (some id))
  |some i=>Ao c (some i)
 | .loop c,i=>match i with
  |none=>0
  |some i=>Ao c (some i)
 | .exit id,i=>match i with
  |none=>0
  |some i=>match Nat.beq i id with|true=>1|false=>0
 | .ret,_=>0
 | .refuse _,_=>0
 | .goto _,_=>0
 |_,i=>match i with
  |none=>1
  |some _=>0
def zr(a b:Code):Bool:=Nat.ble 2 (Ao a none)&& !gV a&& Nat.ble 3 (O0 b)
structure cy{S:Type}(A:(S->World->Prop)->Prop)(B:S->World->Prop):Prop where
 out:∃J:S->World->Prop,(∀s w,J s w->B s w)/\A J
def cy.at{S:Type}{A:(S->World->Prop)->Prop}{B:S->World->Prop}(J:S->World->Prop)(h:A J)(a:∀s w,J s w->B s w):cy A B:=⟨⟨J,a,h⟩⟩
def jh(E:dC)(ds live:List Nat)(s:DZ live)(g:Nat->Value)(marks:List Nat):dC:=
 {l:=kI live s E.l,g:=λt=>match ds.contains t with|true=>g t|false=>E.g t,ds:=marks}
structure cO{S:Type}(body:S->World->(S->World->Prop)->Prop)(s:S)(w:World):Prop where
 out:∃(I:S->World->Prop) (m:S->World->Nat),I s w/\∀s w,I s w->body s w λs' w' =>I s' w' /\m s' w' <m s w
def Hj(ro:Option Nat)(w:World)(K:Nat->List Nat->World->Prop):Prop:=
 match ro with
 |none=>K w.heap.size [w.heap.size] (w.alloc (.deferred (some [])))
 |some l0=>∃r,w.heap[l0]? =some (.loop r)/\K r.defers [] w
def nh(W:World)(l:Nat)(r:Loop):Prop:=W.heap[l]? =some (.loop r)
def FF(W:World)(l:Nat)(rec:Loop):Prop:=∃st pend,nh W l {rec with state:=st,pending:=pend}
def QM(P:Program)(ro:Option Nat)(gv:Value)(w:World)(np:Nat)
  (rnd:Nat->List Value->World->(World->Prop)->(Code->World->Prop)->Prop)(after:List Nat->Option Code->World->Prop):Prop:=
 match gv with
 | .func (.func f) first captured=>
  Hj ro w λD mk w1=>∀rec:Loop,rec.state=.ready->rec.pending=none->rec.defers=D->
   (∀(args:List Value) (W:World) (K:cm),args.length=np->FF W w1.heap.size rec->
    rnd w1.heap.size args W
     (λW' =>∃r,nh W' w1.heap.size r/\K (.bool true) (W'.putObj w1.heap.size (.loop {r with state:=.ready,pending:=none})))
     (λc W' =>∃r,nh W' w1.heap.size r/\K (.bool false) (W'.putObj w1.heap.size (.loop {r with state:=.done,pending:=some c})))->
    Yl P w1.heap.size ⟨args⟩ W K)->
   Ca P f ⟨first.toList++(.func (.yield w1.heap.size) #[] #[]::captured.toList)⟩ (w1.alloc (.loop rec)) λ_ W=>
    ∃r,nh W w1.heap.size r/\r.state≠ .busy/\after mk r.pending (W.putObj w1.heap.size (.loop {r with state:=.exhausted}))
 |_=>False
structure xR(P:Program)(ro:Option Nat)(gv:Value)(w:World)(np:Nat)
  (rnd:Nat->List Value->World->(World->Prop)->(Code->World->Prop)->Prop)(after:List Nat->Option Code->World->Prop):Prop where
 out:QM P ro gv w np rnd after
def mi{P:Program}{ro:Option Nat}{gv:Value}{w:World}{c:Nat}
  {b:Nat->List Value->World->(World->Prop)->(Code->World->Prop)->Prop}{a:List Nat->Option Code->World->Prop}:xR P ro gv w c b a↔QM P ro gv w c b a:=⟨xR.out,xR.mk⟩
def LW(l:Nat)(W:World)(K:World->Prop):Prop:=∃r,nh W l r/\r.state=.ready/\K (W.putObj l (.loop {r with state:=.busy}))
structure iK(l:Nat)(W:World)(K:World->Prop):Prop where
 out:LW l W K
def pL:List Nat->Nat->List Value->List (Nat×Option Value)->List (Nat×Option Value)
 |t::ts,i,vs,r=>pL ts (i+1) vs ((t,some (vs.getD i undef))::r)
 | [],_,_,r=>r
def fk(N R:World->Prop)(X:Nat->World->Prop)(pend:Option Code)(W:World):Prop:=
 match pend with
 |none=>N W
 |some .ret=>R W
 |some (.exit id)=>X id W
 |_=>False
def vc(P:Program)(jn:Bool)(ro:Option Nat):Code->(Exit->dC->World->Prop)->dC->World->Prop
 | .skip,Q,E,w=>Q .normal E w
 | .region _ ops draw,Q,E,w=>
  match draw with
  |false=>rQ P ops.toList ops.toList E w (Q .normal)
  |true=>sP P ops.toList (ops.toList.length+1) [] [] E w.drew (Q .normal)
 | .seq a b,Q,E,w=>
  match jn&& zr a b with
  |false=>vc P jn ro a (λe E w=>match e with| .normal=>vc P jn ro b Q E w|e=>Q e E w) E w
  |true=>
   su E.l λel=>su (CH (d8 a) el (kQ b)) λlive=>
   cy (S:=DZ live) (λJ=>vc P jn ro a (λe E' w' =>match e with| .normal=>J (fT E' live) w' |e=>Q e E' w') {E with l:=el} w)
    (λs w' =>∀g,vc P jn ro b Q (jh {E with l:=el} (d8 a) live s g E.ds) w')
 | .cond c t f,Q,E,w=>xZ (ev E c) λb=>bc b (vc P jn ro t Q E w) (vc P jn ro f Q E w)
 | .block id c,Q,E,w=>vc P jn ro c (λe E w=>match e with| .exit i=>bc (Nat.beq i id) (Q .normal E w) (Q (.exit i) E w)|e=>Q e E w) E w
 | .loop c,Q,E,w=>
  su E.l λel=>su (dW (d8 c) el []) λlive=>
  match gV c with
  |false=>cO (S:=DZ live) (λs w K=>∀g,vc P jn ro c (λe E' w' =>match e with| .normal=>K (fT E' live) w' |e=>Q e E' w')
    (jh {E with l:=el} (d8 c) live s g E.ds) w) (fT {E with l:=el} live) w
  |true=>cO (S:=DZ live×List Nat) (λs w K=>∀g,vc P jn ro c (λe E' w' =>match e with| .normal=>K (fT E' live,E'.ds) w' |e=>Q e E' w')
    (jh {E with l:=el} (d8 c) live s.1 g s.2) w) (fT {E with l:=el} live,E.ds) w
 | .rangeFunc gv ps assign body,Q,E,w=>
  xR P ro (ev E gv) w ps.toList.length
   (λl args W KN KJ=>vc P jn (some l) assign (λe E W=>match e with
     | .normal=>iK l W λW=>vc P jn (some l) body (λe _ W=>match e with
      | .normal=>KN W
      | .ret=>KJ .ret W
      | .exit id=>KJ (.exit id) W
      |_=>False) E W
     |_=>False) {E with l:=pL ps.toList 0 args E.l,ds:=[]} W)
   (λmk pend W=>fk (λW=>Q .normal {E with ds:=mk++E.ds} W) (λW=>Q .ret {E with ds:=mk++E.ds} W)
    (λid W=>Q (.exit id) {E with ds:=mk++E.ds} W) pend W)
 | .exit id,Q,E,w=>Q (.exit id) E w
 | .ret,Q,E,w=>Q .ret E w
 | .label _,Q,E,w=>Q .normal E w
 | .scope c,Q,E,w=>match ro with
  |none=>vc P jn none c (λe E w=>match e with| .goto _=>False|e=>Q e E w) E w
  |some _=>False
 | .goto _,_,_,_=>False
 | .refuse _,_,_,_=>False
def Af(P:Program)(n:Nat):Code->Bool
 | .region _ ops draw=>(ops.toList.all λo=>pq n o.dst)&& (!draw||(P.follows .mixedOrders&& kC P ops.toList))
 | .seq a b=>Af P n a&& Af P n b
 | .cond _ a b=>Af P n a&& Af P n b
 | .block _ c=>Af P n c
 | .loop c=>Af P n c
 | .scope c=>Af P n c
 | .rangeFunc _ ps a b=>(ps.toList.all λd=>Nat.blt d n)&& Af P n a&& Af P n b
 |_=>true
def xw{P:Program}{s:Sem Value}{w:World}{K b:cm}(h:rv P s w K)(c:∀v a,K v a->b v a):rv P s w b:=by
 rw[ur]at*;unfold K9 at*;split at h
 ·exact c _ _ h
 ·exact h.elim
def wS{P:Program}{s:Sem Unit}{w:World}{K b:World->Prop}(h:ru P s w K)(c:∀a,K a->b a):ru P s w b:=by
 rw[t6]at*;unfold Ky at*;split at h
 ·exact c _ h
 ·exact h.elim
def tp{P:Program}{s:Sem Next}{w:World}{K c:cm}(h:rn P s w K)(a:∀v b,K v b->c v b):rn P s w c:=by
 rw[iX]at*;unfold Dq at*;split at h
 ·exact a _ _ h
 ·exact a _ _ h
 ·exact Ca.mono h a
 ·exact h.mono λ_ _ ⟨v,e,d⟩=>⟨v,e,a _ _ d⟩
 ·exact h.elim
def ux{v:Value}{K a:Bool->Prop}(h:xZ v K)(c:∀b,K b->a b):xZ v a:=by
 unfold xZ at*;split at h
 ·exact c _ h
 ·exact h.elim
def vV{v:Value}{K a:Value->Prop}(h:cF v K)(c:∀b,K b->a b):cF v a:=by
 unfold cF at*;split at h
 ·exact c _ h
 ·exact h.elim
def AI{P:Program}{fv:Value}{a:List Value}{w:World}{K d:cm}(h:ew P fv a w K)(b:∀v c,K v c->d v c):ew P fv a w d:=by
 rw[iQ]at*;unfold B3 at*;split at h
 ·exact Ca.mono h b
 ·exact Yl.mono h b
 ·exact h.elim
def zH{P:Program}{s:Sem Value}{w:World}{K a:Value->Prop}(h:sI P s w K)(b:∀v,K v->a v):sI P s w a:=by
 rw[re]at*;unfold yM at*;split at h
 ·exact⟨h.1,b _ h.2⟩
 ·exact h.elim
def xj{P:Program}{s:Sem Value}{w:World}{K b:cm}(h:rx P s w K)(c:∀v a,K v a->b v a):rx P s w b:=⟨xw h.out c⟩
def yq{P:Program}{s:Sem Unit}{w:World}{K b:World->Prop}(h:fV P s w K)(c:∀a,K a->b a):fV P s w b:=⟨wS h.out c⟩
def D8{P:Program}{s:Sem Value}{w:World}{K a:Value->Prop}(h:iw P s w K)(b:∀v,K v->a v):iw P s w a:=⟨zH h.out b⟩
def zN{P:Program}{s:Sem Value}{K a:Value->Prop}(h:sm P s K)(b:∀v,K v->a v):sm P s a:=
 let⟨v,h1,h2⟩:=h.out
 ⟨⟨v,h1,b _ h2⟩⟩
def CL{P:Program}{s:Sem Value}{K a:Value->Prop}(h:FH P s K)(b:∀v,K v->a v):FH P s a:=⟨zN h.out b⟩
def yX{ρ:Operand->Value}{a:Op}{K c:Value->Prop}(h:rq ρ a K)(b:∀v,K v->c v):rq ρ a c:=by
 unfold rq at*;cases a<;>simp only at h|- <;>first|exact b _ h|exact ux h (λ_=>b _)|exact vV h b|exact h.elim
def zT{P:Program}{ρ:Operand->Value}{o:Oper}{w:World}{K i:cm}(h:HX P ρ o w K)(a:∀v g,K v g->i v g):HX P ρ o w i:=by
 unfold HX at*
 cases d:o.op<;>rw[d]at h<;>simp only at h|- <;>
  first
   |exact xw h a
   |exact xj h a
   |exact wS h (λ_=>a _ _)
   |exact yq h (λ_=>a _ _)
   |exact a _ _ h
   |exact ux h (λ_=>a _ _)
   |exact vV h (λ_=>a _ _)
   |exact tp h a
   |exact h.elim
   |(split at h<;>first|exact xw h a|exact xj h a|exact wS h (λ_=>a _ _)|exact yq h (λ_=>a _ _))
   |skip
 rename_i c
 cases e:c.callee with
 |value f=>
  rw[e]at h;cases f<;>simp only at h|- <;>first|exact AI h a|(split at h<;>first|exact⟨tp h.out a⟩|exact Ca.mono h a)
 |builtin b=>rw[e]at h;cases b<;>first|exact xj h a|exact tp h a
 |invoke r m=>rw[e]at h;exact tp h a
def tG{ops:List Oper}{o:Oper}{E:dC}{f p a e:dC->Prop}(h:Ii ops o E f p)
  (n:∀c,E.Same c->f c->a c)(i:∀c,E.Same c->p c->e c):Ii ops o E a e:=by
 unfold Ii at*;cases l:o.guard with
 |none=>rw[l]at h;exact n E (.refl E) h
 |some g=>
  obtain⟨j,d⟩:=g;rw[l]at h;simp only at h|-;cases q:uz ops j with
  |none=>rw[q]at h;exact i E (.refl E) h
  |some s=>
   rw[q]at h;simp only at h|-;cases m:E.skipped s with
   |true=>rw[m]at h;exact i E (.refl E) h
   |false=>
    rw[m]at h;simp only[xZ]at h|-;cases k:E.get s<;>rw[k]at h<;>first|exact h.elim|skip
    rename_i b
    cases b<;>cases d<;>first|exact n _ (dC.same_put k) h|exact i _ (dC.same_put k) h
def Fr(ds:List Nat)(E E' :dC):Prop:=∀t,t ∉ ds->E'.get t=E.get t
def Fr.refl(ds:List Nat)(E:dC):Fr ds E E:=λ_ _=>rfl
def Fr.trans{ds:List Nat}{E E1 b:dC}(h:Fr ds E E1)(c:Fr ds E1 b):Fr ds E b:=λt a=>(c t a).trans (h t a)
def Fr.mono{ds a:List Nat}{E E1:dC}(h:Fr ds E E1)(d:∀t∈ds,t∈a):Fr a E E1:=λt c=>h t λb=>c (d t b)
def Fr.put{ds:List Nat}(E:dC){d:Option Nat}(v:Value)(a:∀t,d=some t->t∈ds):Fr ds E (E.put d v):=λt b=>uC λe=>b (a t e)
def Fr.skip{ds:List Nat}(E:dC){d:Option Nat}(a:∀t,d=some t->t∈ds):Fr ds E (E.skip d):=λt b=>wX λe=>b (a t e)
def Fr.of_same{ds:List Nat}{E E' :dC}(h:E.Same E'):Fr ds E E' :=λt _=>h.1 t
def xU{P:Program}{ops:List Oper}{K q:dC->World->Prop}{ds:List Nat}:∀(l:List Oper),(∀o∈l,∀t,o.dst=some t->t∈ds)->∀(E:dC) (w:World),rQ P ops l E w K->
  (∀a f,Fr ds E a->a.ds=E.ds->K a f->q a f)->rQ P ops l E w q:=by
 intro l;induction l with
 |nil=>exact λ_ E w h d=>d E w (.refl _ _) rfl h
 |cons o rest p=>
  intro m E w h d;have k:=m o List.mem_cons_self;have n:∀o∈rest,∀t,o.dst=some t->t∈ds:=λu r=>m u (List.mem_cons_of_mem _ r);refine tG h (λj c s=>zT s λv f y=>p n _ _ y λa b i e g=>d a b ?_ ?_ g) (λj c x=>p n _ _ x λa b i e g=>d a b ?_ ?_ g)
  ·exact((Fr.of_same c).trans (Fr.put j v k)).trans i
  ·rw[e,rY,c.2]
  ·exact((Fr.of_same c).trans (Fr.skip j k)).trans i
  ·rw[e,tw,c.2]
def vC{F G:Nat->Prop}(h:∀j,F j->G j):∀{l:List Nat},CT F l->CT G l
 | [],_=>trivial
 | [_],a=>h _ a
 |_::k::l,a=>⟨h _ a.1,vC h (l:=k::l) a.2⟩
def uE{P:Program}{w:World}{R b:Prop}(h:R->b):∀{p:pl},tO P w p R->tO P w p b
 | [],a=>h a
 |_::_,a=>⟨a.1,uE h a.2⟩
def GW{P:Program}{ops:List Oper}{K s:dC->World->Prop}{ds:List Nat}(B:∀o∈ops,∀t,o.dst=some t->t∈ds):∀(f:Nat) (done:List Nat) (m:pl) (E:dC) (w:World),sP P ops f done m E w K->
  (∀d k,Fr ds E d->d.ds=E.ds->K d k->s d k)->sP P ops f done m E w s:=by
 intro f;induction f with
 |zero=>intro _ _ _ _ h;exact h.elim
 |succ f q=>
  intro done m E w h x
  have b:∀(o:Oper) (v:Value) (c:dC),o∈ops->E.Same c->∀d k,Fr ds (c.put o.dst v) d->d.ds=(c.put o.dst v).ds->K d k->s d k:=by
   intro o v c p e d k z u y;exact x d k (((Fr.of_same e).trans (Fr.put c v (B o p))).trans z) (by rw[u,rY,e.2]) y
  have l:∀(o:Oper) (c:dC),o∈ops->E.Same c->∀d k,Fr ds (c.skip o.dst) d->d.ds=(c.skip o.dst).ds->K d k->s d k:=by
   intro o c p e d k z u y;exact x d k (((Fr.of_same e).trans (Fr.skip c (B o p))).trans z) (by rw[u,tw,e.2]) y
  simp only[sP]at h|-;split at h
  ·rename_i i D
   split at h
   ·exact h.elim
   ·rename_i o p
    have a:o∈ops:=List.mem_of_getElem? p;refine tG h (λc e g=>?_) (λc e A=>q _ _ _ _ A (l o c a e));split at g
    ·exact yX g λv n=>q _ _ _ _ n (b o v c a e)
    ·split at g
     · (split at g<;>first|exact zN g λv n=>q _ _ _ _ n (b o v c a e)|exact CL g λv n=>q _ _ _ _ n (b o v c a e))
     ·exact g.elim
    ·split at g
     · (split at g<;>first|exact zH g λv n=>q _ _ _ _ n (b o v c a e)|exact D8 g λv n=>q _ _ _ _ n (b o v c a e))
     ·exact g.elim
  ·split at h
   ·exact x E w (.refl _ _) rfl h
   ·refine vC (λj r=>?_) h;cases p:ops[j]? with
    |none=>rw[p]at r;exact r.elim
    |some o=>
     rw[p]at r;have a:o∈ops:=List.mem_of_getElem? p;exact tG r (λc e g=>zT g λv k n=>uE (λC=>q _ _ _ _ C (b o v c a e)) n) (λc e A=>q _ _ _ _ A (l o c a e))
def cO.mono{S:Type}{b a:S->World->(S->World->Prop)->Prop}{s:S}{w:World}(h:cO b s w)
  (c:∀s w K,b s w K->a s w K):cO a s w:=
 let⟨I,m,h0,h1⟩:=h.out
 ⟨⟨I,m,h0,λs w d=>c _ _ _ (h1 s w d)⟩⟩
def iM{r:List (Nat×Option Value)}{t:Nat}:∀{l:List Nat} {s:DZ l},t ∉ l->dC.look (kI l s r) t=dC.look r t
 | [],_,_=>rfl
 |k::l,s,b=>by
  have a:Nat.beq k t=false:=by
   cases d:Nat.beq k t with
   |false=>rfl
   |true=>exact absurd (by rw[Nat.eq_of_beq_eq_true d];exact List.mem_cons_self) b
  simp only[kI,dC.look,a,cond_false];exact iM λc=>b (List.mem_cons_of_mem _ c)
def i0{r:List (Nat×Option Value)}{t:Nat}{E:dC}:∀{l:List Nat},t∈l->dC.look (kI l (fT E l) r) t=some (some (E.get t))
 |k::l,b=>by
  simp only[kI,fT,dC.look];cases a:Nat.beq k t with
  |true=>rw[Nat.eq_of_beq_eq_true a];rfl
  |false=>
   simp only[cond_false];refine i0 ?_;rcases List.mem_cons.1 b with e|e
   ·subst e;simp at a
   ·exact e
def mj{ds:List Nat}:∀{l:List (Nat×Option Value)} {acc:List Nat},(∀t∈acc,t∈ds)->∀t∈dW ds l acc,t∈ds
 | [],acc,b,t,a=>b t (by simpa [dW]using a)
 |(k,v)::r,acc,b,t,a=>by
  unfold dW at a;cases c:ds.contains k&& !acc.contains k with
  |true=>
   rw[c]at a;refine mj (λx d=>?_) t a;rcases List.mem_cons.1 d with rfl|d
   ·simp only[Bool.and_eq_true]at c;simpa using c.1
   ·exact b x d
  |false=>rw[c]at a;exact mj b t a
def l9{ds:List Nat}:∀{l:List (Nat×Option Value)} {acc:List Nat} {t:Nat},t∈acc->t∈dW ds l acc
 | [],acc,t,a=>by simpa [dW]using a
 |(k,v)::r,acc,t,a=>by
  unfold dW;cases ds.contains k&& !acc.contains k with
  |true=>exact l9 (List.mem_cons_of_mem _ a)
  |false=>exact l9 a
def kz{ds:List Nat}:∀{l:List (Nat×Option Value)} {acc:List Nat} {t:Nat},t∈ds->dC.look l t≠none->t∈dW ds l acc
 | [],_,_,_,h=>absurd rfl h
 |(k,v)::r,acc,t,a,h=>by
  unfold dW;cases b:Nat.beq k t with
  |true=>
   obtain rfl:=Nat.eq_of_beq_eq_true b;have c:ds.contains k=true:=by simpa using a
   cases e:acc.contains k with
   |true=>
    simp only[c,Bool.not_true,Bool.and_false];exact l9 (by simpa using e)
   |false=>
    simp only[c,Bool.not_false,Bool.and_true];exact l9 List.mem_cons_self
  |false=>
   have d:dC.look r t≠none:=by simpa [dC.look,b]using h
   cases ds.contains k&& !acc.contains k with
   |true=>exact kz a d
   |false=>exact kz a d
def tM{ds:List Nat}:∀{l acc:List Nat},(∀t∈acc,t∈ds)->∀t∈xC ds l acc,t∈ds
 | [],acc,b,t,a=>b t (by simpa [xC]using a)
 |k::r,acc,b,t,a=>by
  unfold xC at a;cases c:ds.contains k&& !acc.contains k with
  |true=>
   rw[c]at a;refine tM (λx d=>?_) t a;rcases List.mem_cons.1 d with rfl|d
   ·simp only[Bool.and_eq_true]at c;simpa using c.1
   ·exact b x d
  |false=>rw[c]at a;exact tM b t a
def tW{ds:List Nat}:∀{l acc:List Nat} {t:Nat},t∈acc->t∈xC ds l acc
 | [],acc,t,a=>by simpa [xC]using a
 |k::r,acc,t,a=>by
  unfold xC;cases ds.contains k&& !acc.contains k with
  |true=>exact tW (List.mem_cons_of_mem _ a)
  |false=>exact tW a
def vH{ds:List Nat}{l:List (Nat×Option Value)}{a:List Nat}:∀t∈CH ds l a,t∈ds:=tM (mj (by simp))
def C8{ds:List Nat}{l:List (Nat×Option Value)}{a:List Nat}{t:Nat}(b:t∈ds)(h:dC.look l t≠none):t∈CH ds l a:=tW (kz b h)
def wz{E:dC}{ds a:List Nat}{s:DZ a}{g:Nat->Value}{mk:List Nat}(e:∀t∈a,t∈ds):Fr ds E (jh E ds a s g mk):=by
 intro t b;have d:t ∉ a:=λc=>b (e t c);have f:ds.contains t=false:=by simpa using b
 unfold dC.get jh;simp only[iM d,f]
def yT{a b:Code}(h:zr a b=true):gV a=false:=by
 simp only[zr,Bool.and_eq_true,Bool.not_eq_true']at h;exact h.1.2
def lQ{E:dC}{ds:List Nat}{s:DZ (dW ds E.l [])}{g:Nat->Value}{mk:List Nat}:Fr ds E (jh E ds (dW ds E.l []) s g mk):=by
 intro t a;have c:t ∉ dW ds E.l []:=λb=>a (mj (by simp) t b);have d:ds.contains t=false:=by simpa using a
 unfold dC.get jh;simp only[iM c,d]
def xN{P:Program}{jn:Bool}:∀(c:Code) (ro:Option Nat) (Q z:Exit->dC->World->Prop) (E:dC) (w:World),vc P jn ro c Q E w->
  (∀e u B,Fr (d8 c) E u->(gV c=false->u.ds=E.ds)->Q e u B->z e u B)->vc P jn ro c z E w:=by
 intro c;induction c with
 |skip=>intro ro Q z E w h d;exact d _ _ _ (.refl _ _) (λ_=>rfl) h
 |region id X H=>
  intro ro Q z E w h d;have m:∀o∈X.toList,∀t,o.dst=some t->t∈d8 (.region id X H):=λo ho t A=>List.mem_filterMap.2 ⟨o,ho,A⟩;cases H with
  |false=>exact xU _ m _ _ h λu B n L hK=>d _ _ _ n (λ_=>L) hK
  |true=>exact GW m _ _ _ _ _ h λu B n L hK=>d _ _ _ n (λ_=>L) hK
 |seq a b V T=>
  intro ro Q z E w h d;simp only[vc]at h|-;cases Y:jn&& zr a b with
  |true=>
   rw[Y]at h;simp only[nN]at h|-;obtain⟨J,hJ,hA⟩:=h.out;simp only[Bool.and_eq_true]at Y;have x:=yT Y.2;refine⟨⟨J,λs I hs g=>T ro _ _ _ I (hJ s I hs g) λe u B n m j=>d e u B (((wz vH).mono λt A=>List.mem_append_left _ A).trans (n.mono λt A=>List.mem_append_right _ A)) (λp=>m (by simp only[gV,Bool.or_eq_false_iff]at p;exact p.2)) j,?_⟩⟩;refine V ro _ _ E w hA λe u B n m j=>?_;have k:Fr (d8 (.seq a b)) E u:=n.mono λt A=>List.mem_append_left _ A;cases e with
   |normal=>exact j
   |exit id=>exact d _ _ _ k (λ_=>m x) j
   |goto id=>exact d _ _ _ k (λ_=>m x) j
   |ret=>exact d _ _ _ k (λ_=>m x) j
   |panic S=>exact d _ _ _ k (λ_=>m x) j
   |outgrown=>exact d _ _ _ k (λ_=>m x) j
  |false=>
  rw[Y]at h;refine V ro _ _ E w h λe E1 I hf1 hd1 j=>?_;have y:Fr (d8 (.seq a b)) E E1:=hf1.mono λt A=>List.mem_append_left _ A;have C:gV (.seq a b)=false->E1.ds=E.ds:=λp=>hd1 (by simp only[gV,Bool.or_eq_false_iff]at p;exact p.1);cases e with
  |normal=>
   refine T ro _ _ E1 I j λe E2 w2 hf2 hd2 Z=>d e E2 w2 (y.trans (hf2.mono λt A=>List.mem_append_right _ A)) (λp=>?_) Z;rw[hd2 (by simp only[gV,Bool.or_eq_false_iff]at p;exact p.2),C p]
  |exit id=>exact d _ _ _ y C j
  |goto id=>exact d _ _ _ y C j
  |ret=>exact d _ _ _ y C j
  |panic S=>exact d _ _ _ y C j
  |outgrown=>exact d _ _ _ y C j
 |cond c t f iht ihf=>
  intro ro Q z E w h d;refine ux h λb D=>?_;cases b with
  |true=>exact iht ro _ _ E w D λe u B n m j=>d e u B (n.mono λt A=>List.mem_append_left _ A) (λp=>m (by simp only[gV,Bool.or_eq_false_iff]at p;exact p.1)) j
  |false=>exact ihf ro _ _ E w D λe u B n m j=>d e u B (n.mono λt A=>List.mem_append_right _ A) (λp=>m (by simp only[gV,Bool.or_eq_false_iff]at p;exact p.2)) j
 |block id c O=>
  intro ro Q z E w h d;refine O ro _ _ E w h λe u B n m j=>?_;cases e with
  |exit i=>
   simp only at j|-;cases D:Nat.beq i id<;>rw[D]at j<;>exact d _ _ _ n m j
  |normal=>exact d _ _ _ n m j
  |goto id=>exact d _ _ _ n m j
  |ret=>exact d _ _ _ n m j
  |panic S=>exact d _ _ _ n m j
  |outgrown=>exact d _ _ _ n m j
 |loop c O=>
  intro ro Q z E w h d;simp only[vc,nN]at h|-;cases x:gV c with
  |false=>
   rw[x]at h;refine h.mono λs I K D g=>O ro _ _ _ I (D g) λe u B n m j=>?_;have k:Fr (d8 (.loop c)) E u:=lQ.trans n;have q:gV (.loop c)=false->u.ds=E.ds:=λp=>m x;cases e with
   |normal=>exact j
   |exit id=>exact d _ _ _ k q j
   |goto id=>exact d _ _ _ k q j
   |ret=>exact d _ _ _ k q j
   |panic S=>exact d _ _ _ k q j
   |outgrown=>exact d _ _ _ k q j
  |true=>
   rw[x]at h;refine h.mono λs I K D g=>O ro _ _ _ I (D g) λe u B n m j=>?_;have k:Fr (d8 (.loop c)) E u:=lQ.trans n;have q:gV (.loop c)=false->u.ds=E.ds:=λp=>by simp only[gV]at p;rw[x]at p;cases p
   cases e with
   |normal=>exact j
   |exit id=>exact d _ _ _ k q j
   |goto id=>exact d _ _ _ k q j
   |ret=>exact d _ _ _ k q j
   |panic S=>exact d _ _ _ k q j
   |outgrown=>exact d _ _ _ k q j
 |rangeFunc gv ps G U _ _=>
  intro ro Q z E w h d;simp only[vc,mi,QM]at h|-;split at h
  ·rename_i f first R hgv
   unfold Hj at h|-;have M:∀mk:List Nat,Fr (d8 (.rangeFunc gv ps G U)) E {E with ds:=mk++E.ds}:=λmk t _=>rfl
   have key:∀(mk:List Nat) (F:Option Code) (W:World),
     fk (λW=>Q .normal {E with ds:=mk++E.ds} W) (λW=>Q .ret {E with ds:=mk++E.ds} W) (λid W=>Q (.exit id) {E with ds:=mk++E.ds} W) F W->
     fk (λW=>z .normal {E with ds:=mk++E.ds} W) (λW=>z .ret {E with ds:=mk++E.ds} W) (λid W=>z (.exit id) {E with ds:=mk++E.ds} W) F W:=by
    intro mk F W p;unfold fk at*;split at p
    ·exact d _ _ _ (M mk) (λh=>by cases h) p
    ·exact d _ _ _ (M mk) (λh=>by cases h) p
    ·exact d _ _ _ (M mk) (λh=>by cases h) p
    ·exact p.elim
   cases ro with
   |none=>
    intro N h1 h2 h3 hy;refine(h N h1 h2 h3 hy).mono ?_;rintro v W ⟨r,hr,D,ha⟩;exact⟨r,hr,D,key _ _ _ ha⟩
   |some l0=>
    obtain⟨r0,hr0,h⟩:=h;refine⟨r0,hr0,λN h1 h2 h3 hy=>?_⟩;refine(h N h1 h2 h3 hy).mono ?_;rintro v W ⟨r,hr,D,ha⟩;exact⟨r,hr,D,key _ _ _ ha⟩
  ·exact h.elim
 |exit id=>intro ro Q z E w h d;exact d _ _ _ (.refl _ _) (λ_=>rfl) h
 |scope c O=>
  intro ro Q z E w h d;cases ro with
  |some l=>exact h.elim
  |none=>
   refine O none _ _ E w h λe u B n m j=>?_;cases e with
   |goto l=>exact j.elim
   |exit id=>exact d _ _ _ n m j
   |normal=>exact d _ _ _ n m j
   |ret=>exact d _ _ _ n m j
   |panic S=>exact d _ _ _ n m j
   |outgrown=>exact d _ _ _ n m j
 |label l=>intro ro Q z E w h d;exact d _ _ _ (.refl _ _) (λ_=>rfl) h
 |goto l=>intro ro Q z E w h d;exact h.elim
 |ret=>intro ro Q z E w h d;exact d _ _ _ (.refl _ _) (λ_=>rfl) h
 |refuse why=>intro ro Q z E w h d;exact h.elim
def jU{E E' :dC}(h:∀t,E'.get t=E.get t):∀l,fT E' l=fT E l
 | []=>rfl
 |t::l=>by
  simp only[fT,h t];rw[jU h l]
def wh:∀{l:List Nat} {s:DZ l} {r:List (Nat×Option Value)} {g:Nat->Value} {ds:List Nat},l.Nodup->fT {l:=kI l s r,g:=g,ds:=ds} l=s
 | [],_,_,_,_,_=>rfl
 |t::l,(v,s),r,g,ds,d=>by
  obtain⟨b,d⟩:=List.nodup_cons.1 d;simp only[fT];refine Prod.ext ?_ ?_
  ·simp[dC.get,kI,dC.look]
  ·simp only
   have e:∀a:List Nat,t ∉ a->fT {l:=kI (t::l) (v,s) r,g:=g,ds:=ds} a=fT {l:=kI l s r,g:=g,ds:=ds} a:=by
    intro a;induction a with
    |nil=>intro _;rfl
    |cons k a j=>
     intro f
     have c:Nat.beq t k=false:=by
      cases h:Nat.beq t k with
      |false=>rfl
      |true=>exact absurd (by rw[Nat.eq_of_beq_eq_true h];exact List.mem_cons_self) f
     simp only[fT];rw[j λi=>f (List.mem_cons_of_mem _ i)];congr 1;simp[dC.get,kI,dC.look,c]
   rw[e l b];exact wh d
def my{ds:List Nat}:∀{l:List (Nat×Option Value)} {acc:List Nat},acc.Nodup->(dW ds l acc).Nodup
 | [],acc,h=>by simpa [dW]using h
 |(k,v)::r,acc,h=>by
  unfold dW;cases a:ds.contains k&& !acc.contains k with
  |true=>
   simp only[Bool.and_eq_true]at a;exact my (List.nodup_cons.2 ⟨by simpa using a.2,h⟩)
  |false=>exact my h
def sC{n:Nat}{E E1 e:dC}{ds:List Nat}{a:Act}{mk:List Nat}(h1:Fr ds E e)(c:nS n e a)(h:e.ds=mk):
  nS n (jh E ds (dW ds E.l []) (fT e (dW ds E.l [])) (λt=>a.tmps.getD t undef) mk) a:=by
 refine⟨c.size,λt=>?_,by rw[c.defs,h];rfl⟩;by_cases d:t∈ds
 ·by_cases g:t∈dW ds E.l []
  ·unfold dC.get jh;simp only[i0 g];exact c.get t
  ·have b:dC.look E.l t=none:=by
    apply Classical.byContradiction;intro f;exact g (kz d f)
   unfold dC.get jh;have:ds.contains t=true:=by simpa using d
   simp only[iM g,b,this]
 ·rw[lQ t d,<-h1 t d];exact c.get t
def Ag{n:Nat}{E h:dC}{ds b:List Nat}{a:Act}{mk:List Nat}(d:∀t∈ds,dC.look E.l t≠none->t∈b)(e:∀t∈b,t∈ds)(h1:Fr ds E h)(f:nS n h a)(k:h.ds=mk):
  nS n (jh E ds b (fT h b) (λt=>a.tmps.getD t undef) mk) a:=by
 refine⟨f.size,λt=>?_,by rw[f.defs,k];rfl⟩;by_cases g:t∈ds
 ·by_cases j:t∈b
  ·unfold dC.get jh;simp only[i0 j];exact f.get t
  ·have c:dC.look E.l t=none:=by
    apply Classical.byContradiction;intro i;exact j (d t g i)
   unfold dC.get jh;have:ds.contains t=true:=by simpa using g
   simp only[iM j,c,this]
 ·rw[wz e t g,<-h1 t g];exact f.get t
def tI{E:dC}{ds:List Nat}:∀t,(jh E ds (dW ds E.l []) (fT E (dW ds E.l [])) E.g E.ds).get t=E.get t:=by
 intro t;by_cases d:t∈ds
 ·by_cases c:t∈dW ds E.l []
  ·simp only[dC.get,jh,i0 c]
  ·have a:dC.look E.l t=none:=by
    apply Classical.byContradiction;intro b;exact c (kz d b)
   have:ds.contains t=true:=by simpa using d
   simp only[dC.get,jh,iM c,this,a]
 ·exact lQ t d
def sO{E:dC}{ds:List Nat}{s:DZ (dW ds E.l [])}{g:Nat->Value}{mk:List Nat}:fT (jh E ds (dW ds E.l []) s g mk) (dW ds E.l [])=s:=
 wh (my List.nodup_nil)
def My(a:Act):dC:={l:=[],g:=λt=>a.tmps.getD t undef,ds:=a.defers.map λd=>match d.target with| .collected r=>r|_=>0}
def nS.actE{n:Nat}{E:dC}{a:Act}(h:nS n E a):(∀t,(Vc.My a).get t=E.get t)/\(Vc.My a).ds=E.ds:=by
 refine⟨h.get,?_⟩;unfold Vc.My;simp only;rw[h.defs,List.map_map]
 conv=>rhs;rw[<-List.map_id E.ds]
 exact List.map_congr_left λ_ _=>rfl
def td{P:Program}(i:ni P=true){f:FuncId}{a:Array Value}{w w1:World}{K:cm}(h:Ca P f a w K):
  (callFunc f a).run P w1=.ok (.enter f a) w1:=by
 obtain⟨fn,e,g⟩:=h.bodied
 have d:(fn.name== "runtime.NumGoroutine")=false:=by
  have:=(Array.all_eq_true'.1 i) fn (Array.mem_of_getElem? e);simpa using this
 have b:¬fn.name= "runtime.NumGoroutine" :=by simpa using d
 have c:¬fn.body=none:=by intro j;rw[j]at g;exact absurd g (by simp)
 unfold callFunc;simp[Sem.run_bind,Result.andThen,e,b,c]
def t7{n:Nat}:∀(f:List Nat) (i:Nat) (b:List Value) (E:dC) (c:Array Value),(f.all λd=>Nat.blt d n)=true->b.length=i+f.length->nS n E {tmps:=c,defers:=[]}->
  nS n {E with l:=pL f i b E.l} {tmps:=(f.zip (b.drop i)).foldl (λc (t,a)=>c.setIfInBounds t a) c,defers:=[]}
 | [],_,_,E,c,_,_,h=>by simpa [pL]using h
 |t::f,i,b,E,c,e,g,h=>by
  simp only[List.all_cons,Bool.and_eq_true]at e;simp only[List.length_cons]at g;have j:i<b.length:=by omega
  have k:b.drop i=b[i]::b.drop (i+1):=List.drop_eq_getElem_cons j;have m:b.getD i undef=b[i]:=by simp[j]
  have h1:nS n (E.put (some t) b[i]) (({tmps:=c,defers:=[]}:Act).put (some t) b[i]):=h.put (d:=some t) e.1 _;have:=t7 f (i+1) b (E.put (some t) b[i]) (c.setIfInBounds t b[i]) e.2 (by omega) h1;rw[k];simpa only[pL,dC.put,m,List.zip_cons_cons,List.foldl_cons]using this
def DK(d:Array Nat)(c:List Value)(b:Array Value):
  (d.zip ⟨c⟩).foldl (λb (t,a)=>b.setIfInBounds t a) b=(d.toList.zip c).foldl (λb (t,a)=>b.setIfInBounds t a) b:=by
 rw[<-Array.foldl_toList];simp
def pg{P:Program}{w:World}{l0:Nat}{r:Loop}(h:w.heap[l0]? =some (.loop r))(fn:FuncId)(tmps:Array Value)(a:Array Tmp)(assign body:Code):
  (Instr.enterLoop fn tmps a assign body (some l0)).run P w=
   .ok (w.heap.size,[]) (w.alloc (.loop {state:=.ready,pending:=none,fn,tmps,params:=a,assign,body,defers:=r.defers})):=by
 unfold Instr.enterLoop;simp only[Sem.run_bind,run_getLoop h,Result.andThen,Sem.run_pure,run_newObj_alloc]
def E9{P:Program}{jn:Bool}(hP:ni P=true){n:Nat}:∀(c:Code) (ro:Option Nat) (Q:Exit->dC->World->Prop) (H:Exit->Act->World->Prop) (E:dC) (a:Act) (w:World),
  Af P n c=true->nS n E a->(∀e E a w,nS n E a->Q e E w->H e a w)->vc P jn ro c Q E w->c.wpIn (FR ro) 0 P H a w:=by
 intro c;induction c with
 |skip=>intro ro Q H E a w _ A p h;exact wpIn_skip (p _ _ _ _ A h)
 |region id M draw=>
  intro ro Q H E a w q A p h;simp only[Af,Bool.and_eq_true]at q;cases draw with
  |false=>exact wpIn_region_list (wR (ops:=M.toList) hP (p .normal) M.toList q.1 E a w A h)
  |true=>
   have V:=q.2;simp only[Bool.not_true,Bool.false_or,Bool.and_eq_true]at V;refine wpIn_region_any V.1 ?_
   have:=Dx (ro:=ro) (ops:=M.toList) hP V.2 q.1 (p .normal) M.size [] [] [] [] E a w.drew (M.toList.length+1) (Array.replicate M.size false)
    ⟨(λi=>by simp),(λi hi=>by cases hi),List.nodup_nil,trivial,(λi hi=>by cases hi),A.size,A.defs,(λt _=>A.get t),(λi hi=>by cases hi)⟩
    (λi hi=>by simp at hi;simp[hi]) (by simp) (by simp) (by simpa using List.length_filter_le _ (List.range M.size)) h
   simpa using this
 |seq x y ihx ihy=>
  intro ro Q H E a w q A p h;simp only[Af,Bool.and_eq_true]at q;simp only[vc]at h;cases hj:jn&& zr x y with
  |true=>
   rw[hj]at h;simp only[nN]at h;obtain⟨J,hJ,hA⟩:=h.out;simp only[Bool.and_eq_true]at hj;have hrf:=yT hj.2
   have hA' :=xN x ro _ (λe L S=>(match e with| .normal=>J (fT L (CH (d8 x) E.l (kQ y))) S|e=>Q e L S)/\Fr (d8 x) E L/\L.ds=E.ds) _ w hA
    (λe L S X hd o=>⟨by cases e<;>exact o,X,hd hrf⟩)
   refine wpIn_seq (ihx ro _ _ E a w q.1 A (λe E1 Y u k o=>?_) hA');obtain⟨o,X,hd⟩:=o;cases e with
   |normal=>exact ihy ro Q H _ Y u q.2 (Ag (λt ht hne=>C8 ht hne) vH X k hd) p (hJ _ _ o _)
   |exit id=>exact p _ _ _ _ k o
   |goto id=>exact p _ _ _ _ k o
   |ret=>exact p _ _ _ _ k o
   |panic ch=>exact p _ _ _ _ k o
   |outgrown=>exact p _ _ _ _ k o
  |false=>
  rw[hj]at h;refine wpIn_seq (ihx ro _ _ E a w q.1 A (λe E1 Y u k o=>?_) h);cases e with
  |normal=>exact ihy ro Q H E1 Y u q.2 k p o
  |exit id=>exact p _ _ _ _ k o
  |goto id=>exact p _ _ _ _ k o
  |ret=>exact p _ _ _ _ k o
  |panic ch=>exact p _ _ _ _ k o
  |outgrown=>exact p _ _ _ _ k o
 |cond c t f iht ihf=>
  intro ro Q H E a w q A p h;simp only[Af,Bool.and_eq_true]at q;simp only[vc,xZ]at h;split at h
  ·rename_i b U
   have hb' :a.eval c=.bool b:=by rw[A.ev];exact U
   cases b with
   |true=>exact wpIn_cond hb' (iht ro Q H E a w q.1 A p h)
   |false=>exact wpIn_cond hb' (ihf ro Q H E a w q.2 A p h)
  ·exact h.elim
 |block id c ih=>
  intro ro Q H E a w q A p h;refine wpIn_block (ih ro _ _ E a w q A (λe E1 Y u k o=>?_) h);cases e with
  |exit i=>
   simp only at o;cases U:Nat.beq i id with
   |true=>
    rw[U]at o;simp only[bc]at o;simp only[Exit.inBlock,Nat.eq_of_beq_eq_true U,if_true];exact p _ _ _ _ k o
   |false=>
    rw[U]at o;have hne:¬i=id:=λe=>by subst e;simp at U
    simp only[Exit.inBlock,hne,if_false];exact p _ _ _ _ k o
  |normal=>exact p _ _ _ _ k o
  |goto id=>exact p _ _ _ _ k o
  |ret=>exact p _ _ _ _ k o
  |panic ch=>exact p _ _ _ _ k o
  |outgrown=>exact p _ _ _ _ k o
 |loop c ih=>
  intro ro Q H E a w q A p h;simp only[vc,nN]at h;cases hrf:gV c with
  |false=>
   rw[hrf]at h;obtain⟨I,m,h0,h1⟩:=h.out
   refine wpIn_loop (λa w=>∃s g,nS n (jh E (d8 c) (dW (d8 c) E.l []) s g E.ds) a/\I s w) (λa w=>m (fT (My a) (dW (d8 c) E.l [])) w)
    ⟨_,E.g,A.of_get tI rfl,h0⟩ ?_
   rintro Y u ⟨s,g,k,hI⟩
   have U:=xN c ro _ (λe L S=>(match e with| .normal=>I (fT L (dW (d8 c) E.l [])) S/\m (fT L (dW (d8 c) E.l [])) S<m s u|e=>Q e L S)/\Fr (d8 c) E L/\L.ds=E.ds) _ u (h1 s u hI g)
    (λe L S X hd o=>⟨by cases e<;>exact o,lQ.trans X,hd hrf⟩)
   refine ih ro _ _ _ Y u q k (λe E2 a2 w2 z o=>?_) U;obtain⟨o,X,hd⟩:=o;cases e with
   |normal=>
    refine⟨⟨_,_,sC (E1:=E) X z hd,o.1⟩,?_⟩;rw[jU (z.actE.1),jU (k.actE.1),sO];exact o.2
   |exit id=>exact p _ _ _ _ z o
   |goto id=>exact p _ _ _ _ z o
   |ret=>exact p _ _ _ _ z o
   |panic ch=>exact p _ _ _ _ z o
   |outgrown=>exact p _ _ _ _ z o
  |true=>
   rw[hrf]at h;obtain⟨I,m,h0,h1⟩:=h.out
   refine wpIn_loop (λa w=>∃s g,nS n (jh E (d8 c) (dW (d8 c) E.l []) s.1 g s.2) a/\I s w) (λa w=>m (fT (My a) (dW (d8 c) E.l []),(My a).ds) w)
    ⟨(_,E.ds),E.g,A.of_get tI rfl,h0⟩ ?_
   rintro Y u ⟨s,g,k,hI⟩
   have U:=xN c ro _ (λe L S=>(match e with| .normal=>I (fT L (dW (d8 c) E.l []),L.ds) S/\m (fT L (dW (d8 c) E.l []),L.ds) S<m s u|e=>Q e L S)/\Fr (d8 c) E L) _ u (h1 s u hI g)
    (λe L S X hd o=>⟨by cases e<;>exact o,lQ.trans X⟩)
   refine ih ro _ _ _ Y u q k (λe E2 a2 w2 z o=>?_) U;obtain⟨o,X⟩:=o;cases e with
   |normal=>
    refine⟨⟨(_,E2.ds),_,sC (E1:=E) X z rfl,o.1⟩,?_⟩;rw[jU (z.actE.1),jU (k.actE.1),sO,z.actE.2,k.actE.2];exact o.2
   |exit id=>exact p _ _ _ _ z o
   |goto id=>exact p _ _ _ _ z o
   |ret=>exact p _ _ _ _ z o
   |panic ch=>exact p _ _ _ _ z o
   |outgrown=>exact p _ _ _ _ z o
 |rangeFunc gv ps assign body iha ihb=>
  intro ro Q H E a w q A p h;simp only[Af,Bool.and_eq_true]at q;obtain⟨⟨hps,hoka⟩,hokb⟩:=q;simp only[vc,mi,QM]at h;split at h
  ·rename_i f first j hgv
   have hgv' :a.eval gv=.func (.func f) first j:=by rw[A.ev];exact hgv
   have main:∀(u:World) (D:Nat) (mk:List Nat) (fn:FuncId),
     (∀rec:Loop,rec.state=.ready->rec.pending=none->rec.defers=D->
      (∀(B:List Value) (W:World) (K:cm),B.length=ps.toList.length->FF W u.heap.size rec->
       vc P jn (some u.heap.size) assign (λe E W=>match e with
        | .normal=>iK u.heap.size W λW=>vc P jn (some u.heap.size) body (λe _ W=>match e with
         | .normal=>∃r,nh W u.heap.size r/\K (.bool true) (W.putObj u.heap.size (.loop {r with state:=.ready,pending:=none}))
         | .ret=>∃r,nh W u.heap.size r/\K (.bool false) (W.putObj u.heap.size (.loop {r with state:=.done,pending:=some .ret}))
         | .exit id=>∃r,nh W u.heap.size r/\K (.bool false) (W.putObj u.heap.size (.loop {r with state:=.done,pending:=some (.exit id)}))
         |_=>False) E W
        |_=>False) {E with l:=pL ps.toList 0 B E.l,ds:=[]} W->
       Yl P u.heap.size ⟨B⟩ W K)->
      Ca P f ⟨first.toList++(.func (.yield u.heap.size) #[] #[]::j.toList)⟩ (u.alloc (.loop rec)) λ_ W=>
       ∃r,nh W u.heap.size r/\r.state≠ .busy/\fk (λW=>Q .normal {E with ds:=mk++E.ds} W) (λW=>Q .ret {E with ds:=mk++E.ds} W)
        (λid W=>Q (.exit id) {E with ds:=mk++E.ds} W) r.pending (W.putObj u.heap.size (.loop {r with state:=.exhausted})))->
     let rc:Loop:={state:=.ready,pending:=none,fn,tmps:=a.tmps,params:=ps,assign,body,defers:=D}
     let a' :Act:={a with defers:=(mk.map λd=>{target:=.collected d,args:=#[]})++a.defers}
     CallsIn (FR ro) 0 P f ⟨first.toList++(.func (.yield u.heap.size) #[] #[]::j.toList)⟩ (u.alloc (.loop rc)) (rangePost (FR ro) 0 P u.heap.size H a')/\
      ∀w2,(callFunc f ⟨first.toList++(.func (.yield u.heap.size) #[] #[]::j.toList)⟩).run P w2=.ok (.enter f ⟨first.toList++(.func (.yield u.heap.size) #[] #[]::j.toList)⟩) w2:=by
    intro u D mk fn hh rc a'
    have hca:=hh rc rfl rfl rfl (λB W K hlen hrec hrnd=>by
     obtain⟨st,pend,hat⟩:=hrec;refine⟨_,_,_,_,run_yield hat (by simpa using hlen),?_⟩;refine roundIn_of_wpIn (F:=Fence.wide) trivial ?_
     have hrel:nS n {E with l:=pL ps.toList 0 B E.l,ds:=[]} {tmps:=(ps.zip ⟨B⟩).foldl (λO (t,a)=>O.setIfInBounds t a) a.tmps,defers:=[]}:=by
      rw[DK];exact t7 ps.toList 0 B {E with ds:=[]} a.tmps hps (by simpa using hlen) ⟨A.size,A.get,rfl⟩
     refine iha (some u.heap.size) _ _ _ _ W hoka hrel (λe E1 Y T k o=>?_) hrnd;cases e with
     |normal=>
      obtain⟨r,hra,hst,hbody⟩:=o.out;refine⟨_,run_beginRound hra hst,?_⟩;refine ihb (some u.heap.size) _ _ E1 Y _ hokb k (λe E2 a2 W2 z R=>?_) hbody;cases e with
      |normal=>
       obtain⟨r2,N,hK⟩:=R;exact⟨_,_,run_endRound none N,_,rfl,hK⟩
      |ret=>
       obtain⟨r2,N,hK⟩:=R;exact⟨_,_,run_endRound _ N,_,rfl,hK⟩
      |exit id=>
       obtain⟨r2,N,hK⟩:=R;exact⟨_,_,run_endRound _ N,_,rfl,hK⟩
      |goto id=>exact R.elim
      |panic ch=>exact R.elim
      |outgrown=>exact R.elim
     |exit id=>exact o.elim
     |goto id=>exact o.elim
     |ret=>exact o.elim
     |panic ch=>exact o.elim
     |outgrown=>exact o.elim)
    refine⟨FR.calls (Calls.mono hca.out ?_),λw2=>td hP hca⟩;rintro e W ⟨v,rfl,r,hra,U,G⟩;refine⟨_,_,run_endLoop hra U,?_⟩;have hr' :nS n {E with ds:=mk++E.ds} a' :=⟨A.size,A.get,by simp only[a',A.defs,List.map_append]⟩
    generalize W.putObj u.heap.size (.loop {r with state:=.exhausted})=W4 at G|-;unfold fk at G;split at G
    ·rename_i hp;rw[hp];exact p _ _ _ _ hr' G
    ·rename_i hp;rw[hp];exact wpIn_ret (p _ _ _ _ hr' G)
    ·rename_i hp;rw[hp];exact wpIn_exit (p _ _ _ _ hr' G)
    ·exact G.elim
   refine wpIn_rangeFunc λfn _=>?_
   have hinv:∀l:Nat,(do let d<-resolve a.eval (rangeCall gv l) 0;invoke d.target d.args:Sem Next)=callFunc f ⟨first.toList++(.func (.yield l) #[] #[]::j.toList)⟩:=by
    intro l;have e1:resolve a.eval (rangeCall gv l) 0=Deferred.ofValue (a.eval gv) #[.func (.yield l) #[] #[]]:=by simp[resolve,Act.eval]
    rw[e1,hgv'];have e2:(do let d<-Deferred.ofValue (.func (.func f) first j) #[.func (.yield l) #[] #[]];invoke d.target d.args:Sem Next)=callFunc f (first++ #[.func (.yield l) #[] #[]]++j):=rfl;rw[e2];congr 1;apply Array.ext';simp
   have hres:∀(l:Nat) (u:World),(resolve a.eval (rangeCall gv l) 0).run P u=.ok {target:=.fn (.func f) j,args:=first++ #[.func (.yield l) #[] #[]]} u:=by
    intro l u;have e1:resolve a.eval (rangeCall gv l) 0=Deferred.ofValue (a.eval gv) #[.func (.yield l) #[] #[]]:=by simp[resolve,Act.eval]
    rw[e1,hgv'];rfl
   have hinv2:∀l:Nat,(invoke (.fn (.func f) j) (first++ #[.func (.yield l) #[] #[]]):Sem Next)=callFunc f ⟨first.toList++(.func (.yield l) #[] #[]::j.toList)⟩:=by
    intro l;have e2:(invoke (.fn (.func f) j) (first++ #[.func (.yield l) #[] #[]]):Sem Next)=callFunc f (first++ #[.func (.yield l) #[] #[]]++j):=rfl;rw[e2];congr 1;apply Array.ext';simp
   cases ro with
   |none=>
    have hm:=main (w.alloc (.deferred (some []))) w.heap.size [w.heap.size] fn h;obtain⟨T,Z⟩:∃T,T=(w.alloc (.deferred (some []))).alloc (.loop {state:=.ready,pending:=none,fn,tmps:=a.tmps,params:=ps,assign,body,defers:=w.heap.size}):=⟨_,rfl⟩
    have hm1:=hm.1;have hm2:=hm.2 T;rw[World.size_alloc]at hm1 hm2;refine⟨w.heap.size+1,[{target:=.collected w.heap.size,args:=#[]}],T,_,T,f,⟨first.toList++(.func (.yield (w.heap.size+1)) #[] #[]::j.toList)⟩,T,?_,hres _ _,λ_ _=>FR.fn none _,?_,(λhh=>by rw[FR.depth]at hh;cases hh),?_⟩
    ·rw[Z];exact run_enterLoop_outer fn a.tmps ps assign body
    ·rw[hinv2];exact hm2
    ·rw[Z];exact hm1
   |some l0=>
    obtain⟨r0,hr0,h⟩:=h;have hm:=main w r0.defers [] fn h;obtain⟨T,Z⟩:∃T,T=w.alloc (.loop {state:=.ready,pending:=none,fn,tmps:=a.tmps,params:=ps,assign,body,defers:=r0.defers}):=⟨_,rfl⟩
    refine⟨w.heap.size,[],T,_,T,f,⟨first.toList++(.func (.yield w.heap.size) #[] #[]::j.toList)⟩,T,?_,hres _ _,λ_ _=>FR.fn (some l0) _,?_,(λhh=>by rw[FR.depth]at hh;cases hh),?_⟩
    ·rw[FR.round,Z];exact pg hr0 fn a.tmps ps assign body
    ·rw[hinv2];exact hm.2 _
    ·rw[Z];exact hm.1
  ·exact h.elim
 |exit id=>intro ro Q H E a w _ A p h;exact wpIn_exit (p _ _ _ _ A h)
 |scope c ih=>
  intro ro Q H E a w q A p h;cases ro with
  |some l=>exact h.elim
  |none=>
   show Code.wpIn Fence.wide 0 P _ _ _ _;refine wpIn_wide.2 (wp_scope_straight ((wpIn_wide (n:=0)).1 ?_));refine ih none (λe E w=>match e with| .goto _=>False|e=>Q e E w) (Exit.noGoto H) E a w q A (λe E1 Y u k o=>?_) h;cases e with
   |goto l=>exact o.elim
   |exit id=>exact p _ _ _ _ k o
   |normal=>exact p _ _ _ _ k o
   |ret=>exact p _ _ _ _ k o
   |panic ch=>exact p _ _ _ _ k o
   |outgrown=>exact p _ _ _ _ k o
 |label l=>intro ro Q H E a w _ A p h;exact wpIn_label (p _ _ _ _ A h)
 |goto l=>intro ro Q H E a w _ A p h;exact h.elim
 |ret=>intro ro Q H E a w _ A p h;exact wpIn_ret (p _ _ _ _ A h)
 |refuse why=>intro ro Q H E a w _ A p h;exact h.elim
def jC:List Nat->World->(World->Prop)->Prop
 | [],w,K=>K w
 |d::ds,w,K=>w.heap[d]? =some (.deferred (some []))/\jC ds (w.putObj d (.deferred none)) K
def wQ(P:Program):List ResultVar->dC->World->(List Value->Prop)->Prop
 | [],_,_,K=>K []
 | .tmp t::r,E,w,K=>wQ P r E w λvs=>K (E.get t::vs)
 | .cell a t::r,E,w,K=>match vt P t with
  |true=>iw P (dm t (E.get a)) w λv=>wQ P r E w λvs=>K (v::vs)
  |false=>sI P (Instr.loadAt t (E.get a)) w λv=>wQ P r E w λvs=>K (v::vs)
def yJ:List Value->Value
 | [v]=>v
 |vs=>.tuple ⟨vs⟩
def vW:Nat->List Value->List (Nat×Option Value)
 |_,[]=>[]
 |i,v::r=>(i,some v)::vW (i+1) r
def EC(P:Program)(jn:Bool)(fn:Func)(args:List Value)(w:World)(K:cm):Prop:=
 match fn.body with
 |none=>False
 |some c=>vc P jn none c (λe E w=>match e with
   | .normal=>jC E.ds w λw=>wQ P fn.results.toList E w λvs=>K (yJ vs) w
   | .ret=>jC E.ds w λw=>wQ P fn.results.toList E w λvs=>K (yJ vs) w
   |_=>False) {l:=vW 0 args,g:=λ_=>undef,ds:=[]} w
def KQ(P:Program)(fn:Func)(args:List Value)(w:World)(K:cm):Prop:=EC P true fn args w K
def QR(P:Program)(fn:Func)(k:Nat):Bool:=
 Nat.ble k fn.ntmps&& match fn.body with
 |none=>false
 |some c=>Af P fn.ntmps c
def uW(t:Nat):∀(l:List Value) (i:Nat),dC.look (vW i l) t=if i<=t then(l[t - i]?).map some else none
 | [],i=>by simp[vW,dC.look]
 |v::r,i=>by
  simp only[vW,dC.look];cases b:Nat.beq i t with
  |true=>have:=Nat.eq_of_beq_eq_true b;subst this;simp
  |false=>
   have c:i≠t:=λe=>by subst e;simp at b
   simp only[cond_false];rw[uW t r (i+1)];by_cases h:i+1<=t
   ·have a:i<=t:=by omega
    have d:t - i=(t - (i+1))+1:=by omega
    simp[h,a,d]
   ·have a:¬i<=t:=by omega
    simp[h,a]
def CU(a:List Value)(n:Nat)(h:a.length<=n):
  nS n {l:=vW 0 a,g:=λ_=>undef,ds:=[]} {tmps:=(⟨a⟩:Array Value)++Array.replicate (n - a.length) undef,defers:=[]}:=by
 refine⟨by simp;omega,λt=>?_,rfl⟩;unfold dC.get;rw[uW];simp only[Nat.zero_le,if_true,Nat.sub_zero];by_cases b:t<a.length
 ·rw[Array.getD_eq_getD_getElem?,Array.getElem?_append_left (by simpa using b)];simp[List.getElem?_eq_getElem b]
 ·rw[List.getElem?_eq_none (by omega)];rw[Array.getD_eq_getD_getElem?,Array.getElem?_append_right (by simpa using Nat.le_of_not_lt b)];simp only[Option.map_none];cases c:(Array.replicate (n - a.length) undef)[t - (⟨a⟩:Array Value).size]? with
  |none=>rfl
  |some v=>
   have:=(Array.getElem?_eq_some_iff.1 c).2;simp at this;simp[this]
def uN(tmps:Array Value):ResultVar->Sem Value
 | .tmp t=>pure (tmps.getD t undef)
 | .cell a t=>do loadVar t (<-asAddr (tmps.getD a undef))
def uI{P:Program}{b:Array Value}{E:dC}{w:World}(e:∀t,b.getD t undef=E.get t):∀(rs:List ResultVar) (K:List Value->Prop),wQ P rs E w K->
  ∃c,(rs.mapM (uN b)).run P w=.ok c w/\K c
 | [],K,h=>⟨[],rfl,h⟩
 | .tmp t::r,K,h=>by
  obtain⟨c,h1,f⟩:=uI e r _ h;refine⟨_,?_,f⟩;have g:(uN b (.tmp t)).run P w=.ok (E.get t) w:=by rw[<-e];rfl
  simp only[List.mapM_cons,Sem.run_bind,Sem.run_pure,Result.andThen,g,h1]
 | .cell a t::r,K,h=>by
  have h:sI P (Instr.loadAt t (E.get a)) w λv=>wQ P r E w λc=>K (v::c):=by
   simp only[wQ]at h;cases j:vt P t with
   |true=>rw[j]at h;exact h.out
   |false=>rw[j]at h;exact h
  simp only[re,yM]at h;split at h
  ·rename_i v i d
   obtain⟨rfl,h⟩:=h;obtain⟨c,h1,f⟩:=uI e r _ h;refine⟨_,?_,f⟩
   have g:(uN b (.cell a t)).run P i=.ok v i:=by
    have k:uN b (.cell a t)=(do loadVar t (<-asAddr (b.getD a undef))):=rfl;rw[k,e];unfold Instr.loadAt at d;cases l:E.get a<;>rw[l]at d<;>first|(simp[Instr.sureAddr,stuck,Sem.run_bind,Sem.run,Result.andThen]at d;done)|skip
    rename_i p
    cases p with
    |none=>simp[Instr.sureAddr,stuck,Sem.run_bind,Sem.run,Result.andThen]at d
    |some p=>
     simp only[Instr.sureAddr,asAddr,Sem.run_bind,Sem.run_pure,Result.andThen]at d|-;exact d
   simp only[List.mapM_cons,Sem.run_bind,Sem.run_pure,Result.andThen,g,h1]
  ·exact h.elim
def BA(fn:Func)(a:Array Value):results fn a=(do
  let b<-fn.results.mapM (uN a)
  pure (if h:b.size=1 then b[0]else .tuple b)):=by
 unfold results;congr 1
def rO{P:Program}{fn:Func}{a:Array Value}{E:dC}{K:cm}(c:∀t,a.getD t undef=E.get t):∀(ds:List Nat) (w:World),
  jC ds w (λw=>wQ P fn.results.toList E w λb=>K (yJ b) w)->
  LeavesInM Fence.wide 0 P fn a (λe f=>∃v,e=.returned v/\K v f) (ds.map λd=>{target:=.collected d,args:=#[]}) .returning w
 | [],w,h=>by
  obtain⟨b,h1,g⟩:=uI c _ _ h;refine⟨yJ b,?_,_,rfl,g⟩;rw[BA,Array.mapM_eq_mapM_toList];simp only[Sem.run_bind,Sem.run_map,h1,Result.andThen,Sem.run_pure];congr 1
  match b with
  | []=>rfl
  | [v]=>rfl
  |v::u::r=>simp[yJ]
 |d::ds,w,h=>by
  refine⟨by simp,.inl ⟨d,_,rfl,run_takeDeferred h.1,rO c ds _ h.2⟩⟩
def C3{P:Program}{o:Bool}(q:ni P=true){f:FuncId}{fn:Func}{b:List Value}{w:World}{K:cm}(p:P.funcs[f]? =some fn)(d:QR P fn b.length=true)
  (h:EC P o fn b w K):Ca P f ⟨b⟩ w K:=by
 unfold QR at d;unfold EC at h;simp only[Bool.and_eq_true]at d;obtain⟨i,d⟩:=d;cases m:fn.body with
 |none=>rw[m]at h;exact h.elim
 |some c=>
  rw[m]at h d;refine⟨(callsIn_wide (n:=0)).1 (callsIn_of_wp_marks p m trivial ?_ rfl)⟩;have j:=CU b fn.ntmps (by simpa [Nat.ble_eq]using i);refine E9 (n:=fn.ntmps) q c none _ _ _ _ w d j (λe E a r l g=>?_) h;cases e with
  |normal=>have k:=rO (K:=K) l.get _ _ g;rw[<-l.defs]at k;exact k
  |ret=>have k:=rO (K:=K) l.get _ _ g;rw[<-l.defs]at k;exact k
  |exit id=>exact g.elim
  |goto id=>exact g.elim
  |panic s=>exact g.elim
  |outgrown=>exact g.elim
def DL{P:Program}(d:ni P=true){f:FuncId}{fn:Func}{a:List Value}{w:World}{K:cm}(c:P.funcs[f]? =some fn)(b:QR P fn a.length=true)
  (h:KQ P fn a w K):Ca P f ⟨a⟩ w K:=C3 d c b h
@[simp,go_sem] theorem ci (b:Bool) (T F:Prop):cC (.bool b) T F↔if b=true then T else F:=by cases b<;>simp[cC,xZ,bc]
@[simp,go_sem] theorem Ow (b:Bool) (K:Bool->Prop):xZ (.bool b) K↔K b:=Iff.rfl
@[simp,go_sem] theorem cr (a:Addr) (K:Value->Prop):cF (.pointer (some a)) K↔K (.pointer (some a)):=Iff.rfl
@[simp,go_sem] theorem Ti (b:Bool) (T F:Prop):bc b T F↔if b=true then T else F:=by cases b<;>simp[bc]
@[simp,go_sem] theorem QQ (b:Bool) (x y:Value):J3 b x y=if b=true then x else y:=by cases b<;>rfl
def GZ{P:Program}{s s' :Sem Value}{w w' :World}{K:cm}(h1:s=s')(a:w=w'):rv P s w K=rv P s' w' K:=by rw[h1,a]
def EP{P:Program}{s s' :Sem Unit}{w w' :World}{K:World->Prop}(h1:s=s')(a:w=w'):ru P s w K=ru P s' w' K:=by rw[h1,a]
def Gf{P:Program}{s s' :Sem Next}{w w' :World}{K:cm}(h1:s=s')(a:w=w'):rn P s w K=rn P s' w' K:=by rw[h1,a]
def DQ{P:Program}{s s' :Sem Value}{w w' :World}{K:Value->Prop}(h1:s=s')(a:w=w'):sI P s w K=sI P s' w' K:=by rw[h1,a]
def Dt{P:Program}{s s' :Sem Value}{K:Value->Prop}(h1:s=s'):sm P s K=sm P s' K:=by rw[h1]
def Ia{P:Program}{f:FuncId}{a b:Array Value}{w w' :World}{K:cm}(h1:a=b)(c:w=w'):Ca P f a w K=Ca P f b w' K:=by rw[h1,c]
def zg{P:Program}{f f' :Value}{a b:List Value}{w w' :World}{K:cm}(d:f=f')(h1:a=b)(c:w=w'):ew P f a w K=ew P f' b w' K:=by rw[d,h1,c]
def Bt{v a:Value}{K:Value->Prop}(h:v=a):cF v K=cF a K:=by rw[h]
def Dy{v a:Value}{K:Bool->Prop}(h:v=a):xZ v K=xZ a K:=by rw[h]
def CK{v a:Value}{T F:Prop}(h:v=a):cC v T F=cC a T F:=by rw[h]
def zB{S:Type}{a:S->World->(S->World->Prop)->Prop}{s s' :S}{w w' :World}(h1:s=s')(b:w=w'):cO a s w=cO a s' w' :=by rw[h1,b]
def EO{P:Program}{s s' :Sem Value}{w w' :World}{K:cm}(h1:s=s')(a:w=w'):rx P s w K=rx P s' w' K:=by rw[h1,a]
def CO{P:Program}{s s' :Sem Unit}{w w' :World}{K:World->Prop}(h1:s=s')(a:w=w'):fV P s w K=fV P s' w' K:=by rw[h1,a]
def Dz{P:Program}{s s' :Sem Value}{w w' :World}{K:Value->Prop}(h1:s=s')(a:w=w'):iw P s w K=iw P s' w' K:=by rw[h1,a]
def Bp{P:Program}{s s' :Sem Value}{K:Value->Prop}(h1:s=s'):FH P s K=FH P s' K:=by rw[h1]
attribute [congr] EO CO Dz Bp GZ EP Gf DQ Dt Ia zg Bt Dy CK zB
attribute [go_sem] ur K9 t6 Ky iX Dq re yM IS Mo nE QF
@[go_sem] theorem iH {P:Program} {f:FuncId} {first a:Array Value} {b:List Value} {w:World} {K:cm}:ew P (.func (.func f) first a) b w K↔Ca P f ⟨first.toList++(b++a.toList)⟩ w K:=iQ
def uL(P:Program)(t:TypeId):Bool:=match P.underlying t with|some (.map ..)=>true|_=>false
def qX(P:Program)(t:TypeId):Bool:=match P.underlying t with|some (.slice ..)=>true|_=>false
@[go_sem] theorem pR {P:Program} {t:TypeId}:uL P t=true↔∃k e,P.underlying t=some (.map k e):=by
 unfold uL;split<;>simp_all
@[go_sem] theorem qG {P:Program} {t:TypeId}:qX P t=true↔∃e,P.underlying t=some (.slice e):=by
 unfold qX;split<;>simp_all
@[go_sem] theorem G7 {P:Program} {w:World} (t:TypeId) (m:Option Nat) (h:uL P t=true):(binOp .eql t (.map m) (.map none)).run P w=.ok (.bool m.isNone) w:=by
 obtain⟨k,e,h⟩:=pR.1 h;simp only[binOp];simp[run_equal_map_nil w t k e m h]
@[go_sem] theorem FT {P:Program} {w:World} (t:TypeId) (m:Option Nat) (h:uL P t=true):(binOp .neq t (.map m) (.map none)).run P w=.ok (.bool (!m.isNone)) w:=by
 obtain⟨k,e,h⟩:=pR.1 h;simp only[binOp];simp[run_equal_map_nil w t k e m h]
@[go_sem] theorem CR {P:Program} {w:World} (t:TypeId) (a:Option Addr) (l c:Nat) (h:qX P t=true):(binOp .eql t (.slice a l c) (.slice none 0 0)).run P w=.ok (.bool a.isNone) w:=by
 obtain⟨e,h⟩:=qG.1 h;simp only[binOp];simp[run_equal_slice_nil w t e a l c h]
@[go_sem] theorem DC {P:Program} {w:World} (t:TypeId) (a:Option Addr) (l c:Nat) (h:qX P t=true):(binOp .neq t (.slice a l c) (.slice none 0 0)).run P w=.ok (.bool (!a.isNone)) w:=by
 obtain⟨e,h⟩:=qG.1 h;simp only[binOp];simp[run_equal_slice_nil w t e a l c h]
@[go_sem] theorem LJ {P:Program} {w:World} (t:TypeId):(Instr.makeMap t none).run P w=.ok (.map (some w.heap.size)) (w.alloc (.map #[] 0)):=by
 simp[Instr.makeMap]
@[go_sem] theorem D0 {P:Program} {w:World} (t:TypeId) (k:IntKind) (n:Int) (h:uL P t=true):(Instr.makeMap t (some (.int k n))).run P w=.ok (.map (some w.heap.size)) (w.alloc (.map #[] 0)):=by
 obtain⟨k,e,h⟩:=pR.1 h;simp[Instr.makeMap,run_underlying h,asInt,asIntOf,Result.andThen]
def xi(o:Option Obj)(i:Nat)(v:Value):Option Obj:=
 match o with
 |some (.cells c t fz)=>some (.cells (c.setIfInBounds i v) t fz)
 |o=>o
@[simp] theorem eN (c:Array Value) (t:TypeId) (a:Nat×Nat) (i:Nat) (v:Value):xi (some (.cells c t a)) i v=some (.cells (c.setIfInBounds i v) t a):=rfl
def mN(w:World)(b i:Nat)(v:Value)(a:Nat):(w.setCell ⟨b,i,none⟩ v).heap[a]? =if a=b then xi w.heap[b]? i v else w.heap[a]? :=by
 unfold World.setCell;simp only[Option.isSome_none,Bool.false_eq_true,if_false];rw[Array.getElem?_modify];by_cases h:b=a
 ·subst h;simp only[if_true];cases c:w.heap[b]? with
  |none=>rfl
  |some o=>cases o<;>rfl
 ·rw[if_neg h,if_neg (λe=>h e.symm)]
def cU(w:World)(o:Obj)(a:Nat):(w.alloc o).heap[a]? =if a=w.heap.size then some o else w.heap[a]? :=by
 show(w.heap.push o)[a]? =_;rw[Array.getElem?_push]
def db(w:World)(b:Nat)(o:Obj)(c:Nat):(w.putObj b o).heap[c]? =if c=b then(w.heap[b]?).map (λ_=>o)else w.heap[c]? :=by
 unfold World.putObj;simp only;rw[Array.getElem?_setIfInBounds];by_cases h:b=c
 ·subst h;simp only[if_true];by_cases a:b<w.heap.size
  ·simp[a]
  ·simp[a]
 ·rw[if_neg h,if_neg (λe=>h e.symm)]
def mh(w:World)(a:Addr)(v:Value):(w.setCell a v).heap.size=w.heap.size:=by simp[World.setCell]
def cn{w:World}{b:Nat}{o:Obj}(h:w.heap[b]? =some o):b<w.heap.size:=(Array.getElem?_eq_some_iff.1 h).1
def hp(w:World)(b:Nat):Option Obj:=w.heap[b]?
def cN{w:World}{b:Nat}{o:Option Obj}(h:w.heap[b]? =o):hp w b=o:=h
@[go_sem] theorem QS (w:World) (a:Addr):w.cell? a=match hp w a.block with|some (.cells c _ _)=>if a.spot.isSome then none else c[a.off]? |_=>none:=rfl
@[go_sem] theorem Nj (w:World) (a:Addr):w.frozen? a=match hp w a.block with|some (.cells _ _ (b,c))=>b<=a.off&& a.off<c|_=>false:=rfl
@[go_sem] theorem gQ (w:World) (b i:Nat) (v:Value) (a:Nat):hp (w.setCell ⟨b,i,none⟩ v) a=if a=b then xi (hp w b) i v else hp w a:=mN w b i v a
@[go_sem] theorem H6 (w:World) (o:Obj) (a:Nat):hp (w.alloc o) a=if a=w.heap.size then some o else hp w a:=cU w o a
@[go_sem] theorem Db (w:World) (b:Nat) (o:Obj) (a:Nat):hp (w.putObj b o) a=if a=b then(hp w b).map (λ_=>o)else hp w a:=db w b o a
@[go_sem] theorem QJ (w:World) (b:Nat):hp w.drew b=hp w b:=rfl
attribute [go_sem] mh World.size_alloc World.putObj_size
@[go_sem] theorem vK (w:World):w.drew.heap.size=w.heap.size:=rfl
def R7{d n:Nat}(h:d<n):¬d=n/\(∀k,¬d=n+k)/\¬n=d/\∀k,¬n+k=d:=⟨by omega,λk=>by omega,by omega,λk=>by omega⟩
@[go_sem] theorem QV (n a b:Nat):n+a+b=n+(a+b):=Nat.add_assoc n a b
structure cl(F:Nat->Prop)(w w' :World):Prop where
 size:w.heap.size<=w'.heap.size
 out:w'.output=w.output
 os:w'.os=w.os
 blk:∀b,b<w.heap.size->¬F b->w'.heap[b]? =w.heap[b]?
def cl.refl(F:Nat->Prop)(w:World):cl F w w:=⟨Nat.le_refl _,rfl,rfl,λ_ _ _=>rfl⟩
def cl.trans{F:Nat->Prop}{w w1 d:World}(h:cl F w w1)(a:cl F w1 d):cl F w d:=
 ⟨Nat.le_trans h.size a.size,a.out.trans h.out,a.os.trans h.os,λb e c=>(a.blk b (Nat.lt_of_lt_of_le e h.size) c).trans (h.blk b e c)⟩
def cl.mono{F G:Nat->Prop}{w w' :World}(h:cl F w w')(d:∀b,b<w.heap.size->F b->G b):cl G w w' :=
 ⟨h.size,h.out,h.os,λb a e=>h.blk b a λc=>e (d b a c)⟩
def cl.alloc{F:Nat->Prop}{w w' :World}(h:cl F w w')(o:Obj):cl F w (w'.alloc o):=
 ⟨by rw[World.size_alloc];exact Nat.le_succ_of_le h.size,h.out,h.os,λb c a=>by
  rw[cU,if_neg (by have:=h.size;omega)];exact h.blk b c a⟩
def cl.drew{F:Nat->Prop}{w w' :World}(h:cl F w w'):cl F w w'.drew:=⟨h.size,h.out,h.os,h.blk⟩
def cl.setCell{F:Nat->Prop}{w w' :World}(h:cl F w w'){b:Nat}(a:F b\/w.heap.size<=b)(i:Nat)(v:Value):cl F w (w'.setCell ⟨b,i,none⟩ v):=
 ⟨by rw[mh];exact h.size,h.out,h.os,λf c d=>by
  rw[mN,if_neg (λe=>by subst e;rcases a with a|a;exact d a;omega)];exact h.blk f c d⟩
def cl.putObj{F:Nat->Prop}{w w' :World}(h:cl F w w'){b:Nat}(a:F b\/w.heap.size<=b)(o:Obj):cl F w (w'.putObj b o):=
 ⟨by rw[World.putObj_size];exact h.size,h.out,h.os,λf c d=>by
  rw[db,if_neg (λe=>by subst e;rcases a with a|a;exact d a;omega)];exact h.blk f c d⟩
def cl.on{F G:Nat->Prop}{w w1 d:World}(h:cl F w w1)(a:cl G w1 d)(g:∀b,G b->F b\/w.heap.size<=b):cl F w d:=
 ⟨Nat.le_trans h.size a.size,a.out.trans h.out,a.os.trans h.os,λb e c=>(a.blk b (Nat.lt_of_lt_of_le e h.size) λf=>(g b f).elim c (by omega)).trans (h.blk b e c)⟩
def cl.keep{F:Nat->Prop}{w w' :World}(h:cl F w w'){b:Nat}{o:Obj}(a:w.heap[b]? =some o)(c:¬F b):w'.heap[b]? =some o:=
 (h.blk b (cn a) c).trans a
end Go.Vc
