/- Part of a proof. -/
import Derived.Scope
import Derived.WalkKit
import Derived.WalkLawsBesides
import Derived.RowKit3
import Derived.Laws.Cover3
import Derived.Test.YtgebhcgmckjbbaaGreatB1
set_option linter.all false
namespace Go.Vc
open Go Go.Vc
def d7:Code->List Nat
 | .region _ ops _=>ops.toList.filterMap (·.dst)
 | .seq a b=>d7 a++d7 b
 | .cond _ a b=>d7 a++d7 b
 | .block _ c=>d7 c
 | .loop c=>d7 c
 | .scope c=>d7 c
 |_=>[]
def g9:Code->Bool
 | .seq a b=>g9 a||g9 b
 | .cond _ a b=>g9 a||g9 b
 | .block _ c=>g9 c
 | .loop c=>g9 c
 | .scope c=>g9 c
 | .rangeFunc .. =>true
 |_=>false
def dR(ds:List Nat):List (Nat×Option Value)->List Nat->List Nat
 | [],acc=>acc
 |(k,_)::r,acc=>
  match ds.contains k&& !acc.contains k with
  |true=>dR ds r (k::acc)
  |false=>dR ds r acc
def Do:List Nat->Type
 | []=>Unit
 |_::l=>Value×Do l
def fU(E:dy):(l:List Nat)->Do l
 | []=>()
 |t::l=>(E.get t,fU E l)
def kI:(l:List Nat)->Do l->List (Nat×Option Value)->List (Nat×Option Value)
 | [],_,r=>r
 |t::l,s,r=>(t,some s.1)::kI l s.2 r
def rO{α:Type}{β:Sort _}:List α->(List α->β)->β
 | [],k=>k []
 |x::xs,k=>rO xs λl=>k (x::l)
def nI{α:Type}{β:Sort _}:∀(l:List α) (k:List α->β),rO l k=k l
 | [],_=>rfl
 |x::a,k=>by rw[rO,nI a]
def Ek:Operand->Option Nat
 | .tmp t=>some t
 |_=>none
def kN:Code->List Nat
 | .region _ ops _=>ops.toList.flatMap λo=>o.op.operands.toList.filterMap Ek
 | .seq a b=>kN a++kN b
 | .cond c a b=>(Ek c).toList++kN a++kN b
 | .block _ c=>kN c
 | .loop c=>kN c
 | .scope c=>kN c
 | .rangeFunc gv _ a b=>(Ek gv).toList++kN a++kN b
 |_=>[]
def wZ(ds:List Nat):List Nat->List Nat->List Nat
 | [],acc=>acc
 |k::r,acc=>
  match ds.contains k&& !acc.contains k with
  |true=>wZ ds r (k::acc)
  |false=>wZ ds r acc
def B5(ds:List Nat)(l:List (Nat×Option Value))(us:List Nat):List Nat:=wZ ds us (dR ds l [])
def wz:Nat->Nat
 |0=>0
 |1=>1
 |_=>2
def Ob:Code->Nat
 | .region _ ops _=>ops.toList.length
 | .seq a b=>Ob a+Ob b
 | .cond _ _ _=>9
 | .block _ c=>Ob c
 | .loop _=>9
 | .rangeFunc _ _ _ _=>9
 |_=>0
def Rk:Op->Bool
 | .alloc _=>true
 | .box _ _=>true
 | .buildSlice _ _ _=>true
 | .makeSlice _ _ _=>true
 | .makeMap _ _=>true
 | .call _=>true
 | .store _ _ _=>true
 | .mapUpdate _ _ _ _=>true
 | .insert _ _ _ _=>true
 | .mapEntry _ _ _=>true
 | .entryStore _ _ _ _=>true
 |_=>false
def HL(ops:List Oper):Bool:=
 let es:=(List.range ops.length).filter λi=>match ops[i]? with|some o=>Rk o.op|none=>false
 es.any λj=>rO (uJ ops j) λaj=>es.any λi=>Nat.blt i j&& !aj.contains i&& !(uJ ops i).contains j
def zJ:Code->Option Nat->Nat
 | .region _ ops draw,i=>match i with
  |none=>match (ops.toList.any λo=>o.guard.isSome)||(draw&& HL ops.toList)with|true=>2|false=>1
  |some _=>0
 | .seq a b,i=>
  let na:=match Nat.ble 2 (zJ a none)&& !g9 a&& Nat.ble 3 (Ob b)with|true=>1|false=>zJ a none
  match i with
  |none=>wz (na*zJ b none)
  |some i=>wz (zJ a (some i)+na*zJ b (some i))
 | .cond _ a b,i=>wz (zJ a i+zJ b i)
 | .block id c,i=>match i with
  |none=>wz (zJ c none+zJ c (some id))
  |some i=>zJ c (some i)
 | .loop c,i=>match i with
  |none=>0
  |some i=>zJ c (some i)
 | .exit id,i=>match i with
  |none=>0
  |some i=>match Nat.beq i id with|true=>1|false=>0
 | .ret,_=>0
 | .refuse _,_=>0
 | .goto _,_=>0
 |_,i=>match i with
  |none=>1
  |some _=>0
def yR(a b:Code):Bool:=Nat.ble 2 (zJ a none)&& !g9 a&& Nat.ble 3 (Ob b)
structure cB{S:Type}(A:(S->World->Prop)->Prop)(B:S->World->Prop):Prop where
 out:∃J:S->World->Prop,(∀s w,J s w->B s w)/\A J
def cB.at{S:Type}{A:(S->World->Prop)->Prop}{B:S->World->Prop}(J:S->World->Prop)(h:A J)(a:∀s w,J s w->B s w):cB A B:=⟨⟨J,a,h⟩⟩
def iZ(E:dy)(ds live:List Nat)(s:Do live)(g:Nat->Value)(marks:List Nat):dy:=
 {l:=kI live s E.l,g:=λt=>match ds.contains t with|true=>g t|false=>E.g t,ds:=marks}
structure cS{S:Type}(body:S->World->(S->World->Prop)->Prop)(s:S)(w:World):Prop where
 out:∃(I:S->World->Prop) (m:S->World->Nat),I s w/\∀s w,I s w->body s w λs' w' =>I s' w' /\m s' w' <m s w
def GA(ro:Option Nat)(w:World)(K:Nat->List Nat->World->Prop):Prop:=
 match ro with
 |none=>K w.heap.size [w.heap.size] (w.alloc (.deferred (some [])))
 |some l0=>∃r,w.heap[l0]? =some (.loop r)/\K r.defers [] w
def mR(W:World)(l:Nat)(r:Loop):Prop:=W.heap[l]? =some (.loop r)
def EW(W:World)(l:Nat)(rec:Loop):Prop:=∃st pend,mR W l {rec with state:=st,pending:=pend}
def P4(P:Program)(ro:Option Nat)(gv:Value)(w:World)(np:Nat)
  (rnd:Nat->List Value->World->(World->Prop)->(Code->World->Prop)->Prop)(after:List Nat->Option Code->World->Prop):Prop:=
 match gv with
 | .func (.func f) first captured=>
  GA ro w λD mk w1=>∀rec:Loop,rec.state=.ready->rec.pending=none->rec.defers=D->
   (∀(args:List Value) (W:World) (K:cm),args.length=np->EW W w1.heap.size rec->
    rnd w1.heap.size args W
     (λW' =>∃r,mR W' w1.heap.size r/\K (.bool true) (W'.putObj w1.heap.size (.loop {r with state:=.ready,pending:=none})))
     (λc W' =>∃r,mR W' w1.heap.size r/\K (.bool false) (W'.putObj w1.heap.size (.loop {r with state:=.done,pending:=some c})))->
    Yl P w1.heap.size ⟨args⟩ W K)->
   Ca P f ⟨first.toList++(.func (.yield w1.heap.size) #[] #[]::captured.toList)⟩ (w1.alloc (.loop rec)) λ_ W=>
    ∃r,mR W w1.heap.size r/\r.state≠ .busy/\after mk r.pending (W.putObj w1.heap.size (.loop {r with state:=.exhausted}))
 |_=>False
structure xy(P:Program)(ro:Option Nat)(gv:Value)(w:World)(np:Nat)
  (rnd:Nat->List Value->World->(World->Prop)->(Code->World->Prop)->Prop)(after:List Nat->Option Code->World->Prop):Prop where
 out:P4 P ro gv w np rnd after
def mi{P:Program}{ro:Option Nat}{gv:Value}{w:World}{np:Nat}
  {b:Nat->List Value->World->(World->Prop)->(Code->World->Prop)->Prop}{a:List Nat->Option Code->World->Prop}:xy P ro gv w np b a↔P4 P ro gv w np b a:=⟨xy.out,xy.mk⟩
def KX(l:Nat)(W:World)(K:World->Prop):Prop:=∃r,mR W l r/\r.state=.ready/\K (W.putObj l (.loop {r with state:=.busy}))
structure iF(l:Nat)(W:World)(K:World->Prop):Prop where
 out:KX l W K
def pw:List Nat->Nat->List Value->List (Nat×Option Value)->List (Nat×Option Value)
 |t::ts,i,vs,r=>pw ts (i+1) vs ((t,some (vs.getD i undef))::r)
 | [],_,_,r=>r
def fk(N R:World->Prop)(X:Nat->World->Prop)(pend:Option Code)(W:World):Prop:=
 match pend with
 |none=>N W
 |some .ret=>R W
 |some (.exit id)=>X id W
 |_=>False
def vc(P:Program)(jn:Bool)(ro:Option Nat):Code->(Exit->dy->World->Prop)->dy->World->Prop
 | .skip,Q,E,w=>Q .normal E w
 | .region _ ops draw,Q,E,w=>
  match draw with
  |false=>rr P ops.toList ops.toList E w (Q .normal)
  |true=>sj P ops.toList (ops.toList.length+1) [] [] E w.drew (Q .normal)
 | .seq a b,Q,E,w=>
  match jn&& yR a b with
  |false=>vc P jn ro a (λe E w=>match e with| .normal=>vc P jn ro b Q E w|e=>Q e E w) E w
  |true=>
   rO E.l λel=>rO (B5 (d7 a) el (kN b)) λlive=>
   cB (S:=Do live) (λJ=>vc P jn ro a (λe E' w' =>match e with| .normal=>J (fU E' live) w' |e=>Q e E' w') {E with l:=el} w)
    (λs w' =>∀g,vc P jn ro b Q (iZ {E with l:=el} (d7 a) live s g E.ds) w')
 | .cond c t f,Q,E,w=>xH (ev E c) λb=>bc b (vc P jn ro t Q E w) (vc P jn ro f Q E w)
 | .block id c,Q,E,w=>vc P jn ro c (λe E w=>match e with| .exit i=>bc (Nat.beq i id) (Q .normal E w) (Q (.exit i) E w)|e=>Q e E w) E w
 | .loop c,Q,E,w=>
  rO E.l λel=>rO (dR (d7 c) el []) λlive=>
  match g9 c with
  |false=>cS (S:=Do live) (λs w K=>∀g,vc P jn ro c (λe E' w' =>match e with| .normal=>K (fU E' live) w' |e=>Q e E' w')
    (iZ {E with l:=el} (d7 c) live s g E.ds) w) (fU {E with l:=el} live) w
  |true=>cS (S:=Do live×List Nat) (λs w K=>∀g,vc P jn ro c (λe E' w' =>match e with| .normal=>K (fU E' live,E'.ds) w' |e=>Q e E' w')
    (iZ {E with l:=el} (d7 c) live s.1 g s.2) w) (fU {E with l:=el} live,E.ds) w
 | .rangeFunc gv ps assign body,Q,E,w=>
  xy P ro (ev E gv) w ps.toList.length
   (λl args W KN KJ=>vc P jn (some l) assign (λe E W=>match e with
     | .normal=>iF l W λW=>vc P jn (some l) body (λe _ W=>match e with
      | .normal=>KN W
      | .ret=>KJ .ret W
      | .exit id=>KJ (.exit id) W
      |_=>False) E W
     |_=>False) {E with l:=pw ps.toList 0 args E.l,ds:=[]} W)
   (λmk pend W=>fk (λW=>Q .normal {E with ds:=mk++E.ds} W) (λW=>Q .ret {E with ds:=mk++E.ds} W)
    (λid W=>Q (.exit id) {E with ds:=mk++E.ds} W) pend W)
 | .exit id,Q,E,w=>Q (.exit id) E w
 | .ret,Q,E,w=>Q .ret E w
 | .label _,Q,E,w=>Q .normal E w
 | .scope c,Q,E,w=>match ro with
  |none=>vc P jn none c (λe E w=>match e with| .goto _=>False|e=>Q e E w) E w
  |some _=>False
 | .goto _,_,_,_=>False
 | .refuse _,_,_,_=>False
def zz(P:Program)(n:Nat):Code->Bool
 | .region _ ops draw=>(ops.toList.all λo=>oS n o.dst)&& (!draw||(P.follows .mixedOrders&& kB P ops.toList))
 | .seq a b=>zz P n a&& zz P n b
 | .cond _ a b=>zz P n a&& zz P n b
 | .block _ c=>zz P n c
 | .loop c=>zz P n c
 | .scope c=>zz P n c
 | .rangeFunc _ ps a b=>(ps.toList.all λd=>Nat.blt d n)&& zz P n a&& zz P n b
 |_=>true
def wV{P:Program}{s:Sem Value}{w:World}{K b:cm}(h:rv P s w K)(c:∀v a,K v a->b v a):rv P s w b:=by
 rw[t6]at*;unfold Kd at*;split at h
 ·exact c _ _ h
 ·exact h.elim
def wt{P:Program}{s:Sem Unit}{w:World}{K b:World->Prop}(h:ru P s w K)(c:∀a,K a->b a):ru P s w b:=by
 rw[tH]at*;unfold JG at*;split at h
 ·exact c _ h
 ·exact h.elim
def sU{P:Program}{s:Sem Next}{w:World}{K c:cm}(h:rn P s w K)(a:∀v b,K v b->c v b):rn P s w c:=by
 rw[iP]at*;unfold CR at*;split at h
 ·exact a _ _ h
 ·exact a _ _ h
 ·exact Ca.mono h a
 ·exact h.mono λ_ _ ⟨v,e,d⟩=>⟨v,e,a _ _ d⟩
 ·exact h.elim
def ud{v:Value}{K a:Bool->Prop}(h:xH v K)(c:∀b,K b->a b):xH v a:=by
 unfold xH at*;split at h
 ·exact c _ h
 ·exact h.elim
def vx{v:Value}{K a:Value->Prop}(h:cD v K)(c:∀b,K b->a b):cD v a:=by
 unfold cD at*;split at h
 ·exact c _ h
 ·exact h.elim
def Ag{P:Program}{fv:Value}{a:List Value}{w:World}{K d:cm}(h:dX P fv a w K)(b:∀v c,K v c->d v c):dX P fv a w d:=by
 rw[iI]at*;unfold Bz at*;split at h
 ·exact Ca.mono h b
 ·exact Yl.mono h b
 ·exact h.elim
def ze{P:Program}{s:Sem Value}{w:World}{K a:Value->Prop}(h:sY P s w K)(b:∀v,K v->a v):sY P s w a:=by
 rw[qO]at*;unfold yr at*;split at h
 ·exact⟨h.1,b _ h.2⟩
 ·exact h.elim
def wK{P:Program}{s:Sem Value}{w:World}{K b:cm}(h:rx P s w K)(c:∀v a,K v a->b v a):rx P s w b:=⟨wV h.out c⟩
def yd{P:Program}{s:Sem Unit}{w:World}{K b:World->Prop}(h:gh P s w K)(c:∀a,K a->b a):gh P s w b:=⟨wt h.out c⟩
def Dz{P:Program}{s:Sem Value}{w:World}{K a:Value->Prop}(h:iD P s w K)(b:∀v,K v->a v):iD P s w a:=⟨ze h.out b⟩
def zi{P:Program}{s:Sem Value}{K a:Value->Prop}(h:sO P s K)(b:∀v,K v->a v):sO P s a:=
 let⟨v,h1,h2⟩:=h.out
 ⟨⟨v,h1,b _ h2⟩⟩
def Cc{P:Program}{s:Sem Value}{K a:Value->Prop}(h:E0 P s K)(b:∀v,K v->a v):E0 P s a:=⟨zi h.out b⟩
def yD{ρ:Operand->Value}{a:Op}{K c:Value->Prop}(h:qY ρ a K)(b:∀v,K v->c v):qY ρ a c:=by
 unfold qY at*;cases a<;>simp only at h|- <;>first|exact b _ h|exact ud h (λ_=>b _)|exact vx h b|exact h.elim
def zp{P:Program}{ρ:Operand->Value}{o:Oper}{w:World}{K i:cm}(h:Ha P ρ o w K)(a:∀v g,K v g->i v g):Ha P ρ o w i:=by
 unfold Ha at*
 cases d:o.op<;>rw[d]at h<;>simp only at h|- <;>
  first
   |exact wV h a
   |exact wK h a
   |exact wt h (λ_=>a _ _)
   |exact yd h (λ_=>a _ _)
   |exact a _ _ h
   |exact ud h (λ_=>a _ _)
   |exact vx h (λ_=>a _ _)
   |exact sU h a
   |exact h.elim
   |(split at h<;>first|exact wV h a|exact wK h a|exact wt h (λ_=>a _ _)|exact yd h (λ_=>a _ _))
   |skip
 rename_i c
 cases e:c.callee with
 |value f=>
  rw[e]at h;cases f<;>simp only at h|- <;>first|exact Ag h a|(split at h<;>first|exact⟨sU h.out a⟩|exact Ca.mono h a)
 |builtin b=>rw[e]at h;cases b<;>first|exact wK h a|exact sU h a
 |invoke r m=>rw[e]at h;exact sU h a
def tl{ops:List Oper}{o:Oper}{E:dy}{f p a e:dy->Prop}(h:Ho ops o E f p)
  (n:∀c,E.Same c->f c->a c)(i:∀c,E.Same c->p c->e c):Ho ops o E a e:=by
 unfold Ho at*;cases l:o.guard with
 |none=>rw[l]at h;exact n E (.refl E) h
 |some g=>
  obtain⟨j,d⟩:=g;rw[l]at h;simp only at h|-;cases q:ug ops j with
  |none=>rw[q]at h;exact i E (.refl E) h
  |some s=>
   rw[q]at h;simp only at h|-;cases m:E.skipped s with
   |true=>rw[m]at h;exact i E (.refl E) h
   |false=>
    rw[m]at h;simp only[xH]at h|-;cases k:E.get s<;>rw[k]at h<;>first|exact h.elim|skip
    rename_i b
    cases b<;>cases d<;>first|exact n _ (dy.same_put k) h|exact i _ (dy.same_put k) h
def Fr(ds:List Nat)(E E' :dy):Prop:=∀t,t ∉ ds->E'.get t=E.get t
def Fr.refl(ds:List Nat)(E:dy):Fr ds E E:=λ_ _=>rfl
def Fr.trans{ds:List Nat}{E E1 b:dy}(h:Fr ds E E1)(c:Fr ds E1 b):Fr ds E b:=λt a=>(c t a).trans (h t a)
def Fr.mono{ds a:List Nat}{E E1:dy}(h:Fr ds E E1)(d:∀t∈ds,t∈a):Fr a E E1:=λt c=>h t λb=>c (d t b)
def Fr.put{ds:List Nat}(E:dy){d:Option Nat}(v:Value)(a:∀t,d=some t->t∈ds):Fr ds E (E.put d v):=λt b=>ui λe=>b (a t e)
def Fr.skip{ds:List Nat}(E:dy){d:Option Nat}(a:∀t,d=some t->t∈ds):Fr ds E (E.skip d):=λt b=>wx λe=>b (a t e)
def Fr.of_same{ds:List Nat}{E E' :dy}(h:E.Same E'):Fr ds E E' :=λt _=>h.1 t
def xC{P:Program}{ops:List Oper}{K q:dy->World->Prop}{ds:List Nat}:∀(l:List Oper),(∀o∈l,∀t,o.dst=some t->t∈ds)->∀(E:dy) (w:World),rr P ops l E w K->
  (∀a f,Fr ds E a->a.ds=E.ds->K a f->q a f)->rr P ops l E w q:=by
 intro l;induction l with
 |nil=>exact λ_ E w h d=>d E w (.refl _ _) rfl h
 |cons o rest p=>
  intro m E w h d;have k:=m o List.mem_cons_self;have n:∀o∈rest,∀t,o.dst=some t->t∈ds:=λu r=>m u (List.mem_cons_of_mem _ r);refine tl h (λj c s=>zp s λv f y=>p n _ _ y λa b i e g=>d a b ?_ ?_ g) (λj c x=>p n _ _ x λa b i e g=>d a b ?_ ?_ g)
  ·exact((Fr.of_same c).trans (Fr.put j v k)).trans i
  ·rw[e,rB,c.2]
  ·exact((Fr.of_same c).trans (Fr.skip j k)).trans i
  ·rw[e,te,c.2]
def uY{F G:Nat->Prop}(h:∀j,F j->G j):∀{l:List Nat},Cj F l->Cj G l
 | [],_=>trivial
 | [_],a=>h _ a
 |_::k::l,a=>⟨h _ a.1,uY h (l:=k::l) a.2⟩
def uk{P:Program}{w:World}{R b:Prop}(h:R->b):∀{p:oQ},tw P w p R->tw P w p b
 | [],a=>h a
 |_::_,a=>⟨a.1,uk h a.2⟩
def Gh{P:Program}{ops:List Oper}{K s:dy->World->Prop}{ds:List Nat}(B:∀o∈ops,∀t,o.dst=some t->t∈ds):∀(f:Nat) (done:List Nat) (m:oQ) (E:dy) (w:World),sj P ops f done m E w K->
  (∀d k,Fr ds E d->d.ds=E.ds->K d k->s d k)->sj P ops f done m E w s:=by
 intro f;induction f with
 |zero=>intro _ _ _ _ h;exact h.elim
 |succ f q=>
  intro done m E w h x
  have b:∀(o:Oper) (v:Value) (c:dy),o∈ops->E.Same c->∀d k,Fr ds (c.put o.dst v) d->d.ds=(c.put o.dst v).ds->K d k->s d k:=by
   intro o v c p e d k z u y;exact x d k (((Fr.of_same e).trans (Fr.put c v (B o p))).trans z) (by rw[u,rB,e.2]) y
  have l:∀(o:Oper) (c:dy),o∈ops->E.Same c->∀d k,Fr ds (c.skip o.dst) d->d.ds=(c.skip o.dst).ds->K d k->s d k:=by
   intro o c p e d k z u y;exact x d k (((Fr.of_same e).trans (Fr.skip c (B o p))).trans z) (by rw[u,te,e.2]) y
  simp only[sj]at h|-;split at h
  ·rename_i i D
   split at h
   ·exact h.elim
   ·rename_i o p
    have a:o∈ops:=List.mem_of_getElem? p;refine tl h (λc e g=>?_) (λc e A=>q _ _ _ _ A (l o c a e));split at g
    ·exact yD g λv n=>q _ _ _ _ n (b o v c a e)
    ·split at g
     · (split at g<;>first|exact zi g λv n=>q _ _ _ _ n (b o v c a e)|exact Cc g λv n=>q _ _ _ _ n (b o v c a e))
     ·exact g.elim
    ·split at g
     · (split at g<;>first|exact ze g λv n=>q _ _ _ _ n (b o v c a e)|exact Dz g λv n=>q _ _ _ _ n (b o v c a e))
     ·exact g.elim
  ·split at h
   ·exact x E w (.refl _ _) rfl h
   ·refine uY (λj r=>?_) h;cases p:ops[j]? with
    |none=>rw[p]at r;exact r.elim
    |some o=>
     rw[p]at r;have a:o∈ops:=List.mem_of_getElem? p;exact tl r (λc e g=>zp g λv k n=>uk (λC=>q _ _ _ _ C (b o v c a e)) n) (λc e A=>q _ _ _ _ A (l o c a e))
def cS.mono{S:Type}{b a:S->World->(S->World->Prop)->Prop}{s:S}{w:World}(h:cS b s w)
  (c:∀s w K,b s w K->a s w K):cS a s w:=
 let⟨I,m,h0,h1⟩:=h.out
 ⟨⟨I,m,h0,λs w d=>c _ _ _ (h1 s w d)⟩⟩
def iH{r:List (Nat×Option Value)}{t:Nat}:∀{l:List Nat} {s:Do l},t ∉ l->dy.look (kI l s r) t=dy.look r t
 | [],_,_=>rfl
 |k::l,s,b=>by
  have a:Nat.beq k t=false:=by
   cases d:Nat.beq k t with
   |false=>rfl
   |true=>exact absurd (by rw[Nat.eq_of_beq_eq_true d];exact List.mem_cons_self) b
  simp only[kI,dy.look,a,cond_false];exact iH λc=>b (List.mem_cons_of_mem _ c)
def iS{r:List (Nat×Option Value)}{t:Nat}{E:dy}:∀{l:List Nat},t∈l->dy.look (kI l (fU E l) r) t=some (some (E.get t))
 |k::l,b=>by
  simp only[kI,fU,dy.look];cases a:Nat.beq k t with
  |true=>rw[Nat.eq_of_beq_eq_true a];rfl
  |false=>
   simp only[cond_false];refine iS ?_;rcases List.mem_cons.1 b with e|e
   ·subst e;simp at a
   ·exact e
def mj{ds:List Nat}:∀{l:List (Nat×Option Value)} {acc:List Nat},(∀t∈acc,t∈ds)->∀t∈dR ds l acc,t∈ds
 | [],acc,b,t,a=>b t (by simpa [dR]using a)
 |(k,v)::r,acc,b,t,a=>by
  unfold dR at a;cases c:ds.contains k&& !acc.contains k with
  |true=>
   rw[c]at a;refine mj (λx d=>?_) t a;rcases List.mem_cons.1 d with rfl|d
   ·simp only[Bool.and_eq_true]at c;simpa using c.1
   ·exact b x d
  |false=>rw[c]at a;exact mj b t a
def l9{ds:List Nat}:∀{l:List (Nat×Option Value)} {acc:List Nat} {t:Nat},t∈acc->t∈dR ds l acc
 | [],acc,t,a=>by simpa [dR]using a
 |(k,v)::r,acc,t,a=>by
  unfold dR;cases ds.contains k&& !acc.contains k with
  |true=>exact l9 (List.mem_cons_of_mem _ a)
  |false=>exact l9 a
def ky{ds:List Nat}:∀{l:List (Nat×Option Value)} {acc:List Nat} {t:Nat},t∈ds->dy.look l t≠none->t∈dR ds l acc
 | [],_,_,_,h=>absurd rfl h
 |(k,v)::r,acc,t,a,h=>by
  unfold dR;cases b:Nat.beq k t with
  |true=>
   obtain rfl:=Nat.eq_of_beq_eq_true b;have c:ds.contains k=true:=by simpa using a
   cases e:acc.contains k with
   |true=>
    simp only[c,Bool.not_true,Bool.and_false];exact l9 (by simpa using e)
   |false=>
    simp only[c,Bool.not_false,Bool.and_true];exact l9 List.mem_cons_self
  |false=>
   have d:dy.look r t≠none:=by simpa [dy.look,b]using h
   cases ds.contains k&& !acc.contains k with
   |true=>exact ky a d
   |false=>exact ky a d
def tq{ds:List Nat}:∀{l acc:List Nat},(∀t∈acc,t∈ds)->∀t∈wZ ds l acc,t∈ds
 | [],acc,b,t,a=>b t (by simpa [wZ]using a)
 |k::r,acc,b,t,a=>by
  unfold wZ at a;cases c:ds.contains k&& !acc.contains k with
  |true=>
   rw[c]at a;refine tq (λx d=>?_) t a;rcases List.mem_cons.1 d with rfl|d
   ·simp only[Bool.and_eq_true]at c;simpa using c.1
   ·exact b x d
  |false=>rw[c]at a;exact tq b t a
def tC{ds:List Nat}:∀{l acc:List Nat} {t:Nat},t∈acc->t∈wZ ds l acc
 | [],acc,t,a=>by simpa [wZ]using a
 |k::r,acc,t,a=>by
  unfold wZ;cases ds.contains k&& !acc.contains k with
  |true=>exact tC (List.mem_cons_of_mem _ a)
  |false=>exact tC a
def vi{ds:List Nat}{l:List (Nat×Option Value)}{a:List Nat}:∀t∈B5 ds l a,t∈ds:=tq (mj (by simp))
def Cz{ds:List Nat}{l:List (Nat×Option Value)}{a:List Nat}{t:Nat}(b:t∈ds)(h:dy.look l t≠none):t∈B5 ds l a:=tC (ky b h)
def vZ{E:dy}{ds a:List Nat}{s:Do a}{g:Nat->Value}{mk:List Nat}(e:∀t∈a,t∈ds):Fr ds E (iZ E ds a s g mk):=by
 intro t b;have d:t ∉ a:=λc=>b (e t c);have f:ds.contains t=false:=by simpa using b
 unfold dy.get iZ;simp only[iH d,f]
def yz{a b:Code}(h:yR a b=true):g9 a=false:=by
 simp only[yR,Bool.and_eq_true,Bool.not_eq_true']at h;exact h.1.2
def lW{E:dy}{ds:List Nat}{s:Do (dR ds E.l [])}{g:Nat->Value}{mk:List Nat}:Fr ds E (iZ E ds (dR ds E.l []) s g mk):=by
 intro t a;have c:t ∉ dR ds E.l []:=λb=>a (mj (by simp) t b);have d:ds.contains t=false:=by simpa using a
 unfold dy.get iZ;simp only[iH c,d]
def xq{P:Program}{jn:Bool}:∀(c:Code) (ro:Option Nat) (Q z:Exit->dy->World->Prop) (E:dy) (w:World),vc P jn ro c Q E w->
  (∀e u B,Fr (d7 c) E u->(g9 c=false->u.ds=E.ds)->Q e u B->z e u B)->vc P jn ro c z E w:=by
 intro c;induction c with
 |skip=>intro ro Q z E w h d;exact d _ _ _ (.refl _ _) (λ_=>rfl) h
 |region id X H=>
  intro ro Q z E w h d;have m:∀o∈X.toList,∀t,o.dst=some t->t∈d7 (.region id X H):=λo ho t A=>List.mem_filterMap.2 ⟨o,ho,A⟩;cases H with
  |false=>exact xC _ m _ _ h λu B n L hK=>d _ _ _ n (λ_=>L) hK
  |true=>exact Gh m _ _ _ _ _ h λu B n L hK=>d _ _ _ n (λ_=>L) hK
 |seq a b V T=>
  intro ro Q z E w h d;simp only[vc]at h|-;cases Y:jn&& yR a b with
  |true=>
   rw[Y]at h;simp only[nI]at h|-;obtain⟨J,hJ,hA⟩:=h.out;simp only[Bool.and_eq_true]at Y;have x:=yz Y.2;refine⟨⟨J,λs I hs g=>T ro _ _ _ I (hJ s I hs g) λe u B n m j=>d e u B (((vZ vi).mono λt A=>List.mem_append_left _ A).trans (n.mono λt A=>List.mem_append_right _ A)) (λp=>m (by simp only[g9,Bool.or_eq_false_iff]at p;exact p.2)) j,?_⟩⟩;refine V ro _ _ E w hA λe u B n m j=>?_;have k:Fr (d7 (.seq a b)) E u:=n.mono λt A=>List.mem_append_left _ A;cases e with
   |normal=>exact j
   |exit id=>exact d _ _ _ k (λ_=>m x) j
   |goto id=>exact d _ _ _ k (λ_=>m x) j
   |ret=>exact d _ _ _ k (λ_=>m x) j
   |panic S=>exact d _ _ _ k (λ_=>m x) j
   |outgrown=>exact d _ _ _ k (λ_=>m x) j
  |false=>
  rw[Y]at h;refine V ro _ _ E w h λe E1 I hf1 hd1 j=>?_;have y:Fr (d7 (.seq a b)) E E1:=hf1.mono λt A=>List.mem_append_left _ A;have C:g9 (.seq a b)=false->E1.ds=E.ds:=λp=>hd1 (by simp only[g9,Bool.or_eq_false_iff]at p;exact p.1);cases e with
  |normal=>
   refine T ro _ _ E1 I j λe E2 w2 hf2 hd2 Z=>d e E2 w2 (y.trans (hf2.mono λt A=>List.mem_append_right _ A)) (λp=>?_) Z;rw[hd2 (by simp only[g9,Bool.or_eq_false_iff]at p;exact p.2),C p]
  |exit id=>exact d _ _ _ y C j
  |goto id=>exact d _ _ _ y C j
  |ret=>exact d _ _ _ y C j
  |panic S=>exact d _ _ _ y C j
  |outgrown=>exact d _ _ _ y C j
 |cond c t f iht ihf=>
  intro ro Q z E w h d;refine ud h λb D=>?_;cases b with
  |true=>exact iht ro _ _ E w D λe u B n m j=>d e u B (n.mono λt A=>List.mem_append_left _ A) (λp=>m (by simp only[g9,Bool.or_eq_false_iff]at p;exact p.1)) j
  |false=>exact ihf ro _ _ E w D λe u B n m j=>d e u B (n.mono λt A=>List.mem_append_right _ A) (λp=>m (by simp only[g9,Bool.or_eq_false_iff]at p;exact p.2)) j
 |block id c O=>
  intro ro Q z E w h d;refine O ro _ _ E w h λe u B n m j=>?_;cases e with
  |exit i=>
   simp only at j|-;cases D:Nat.beq i id<;>rw[D]at j<;>exact d _ _ _ n m j
  |normal=>exact d _ _ _ n m j
  |goto id=>exact d _ _ _ n m j
  |ret=>exact d _ _ _ n m j
  |panic S=>exact d _ _ _ n m j
  |outgrown=>exact d _ _ _ n m j
 |loop c O=>
  intro ro Q z E w h d;simp only[vc,nI]at h|-;cases x:g9 c with
  |false=>
   rw[x]at h;refine h.mono λs I K D g=>O ro _ _ _ I (D g) λe u B n m j=>?_;have k:Fr (d7 (.loop c)) E u:=lW.trans n;have q:g9 (.loop c)=false->u.ds=E.ds:=λp=>m x;cases e with
   |normal=>exact j
   |exit id=>exact d _ _ _ k q j
   |goto id=>exact d _ _ _ k q j
   |ret=>exact d _ _ _ k q j
   |panic S=>exact d _ _ _ k q j
   |outgrown=>exact d _ _ _ k q j
  |true=>
   rw[x]at h;refine h.mono λs I K D g=>O ro _ _ _ I (D g) λe u B n m j=>?_;have k:Fr (d7 (.loop c)) E u:=lW.trans n;have q:g9 (.loop c)=false->u.ds=E.ds:=λp=>by simp only[g9]at p;rw[x]at p;cases p
   cases e with
   |normal=>exact j
   |exit id=>exact d _ _ _ k q j
   |goto id=>exact d _ _ _ k q j
   |ret=>exact d _ _ _ k q j
   |panic S=>exact d _ _ _ k q j
   |outgrown=>exact d _ _ _ k q j
 |rangeFunc gv ps G U _ _=>
  intro ro Q z E w h d;simp only[vc,mi,P4]at h|-;split at h
  ·rename_i f first R hgv
   unfold GA at h|-;have M:∀mk:List Nat,Fr (d7 (.rangeFunc gv ps G U)) E {E with ds:=mk++E.ds}:=λmk t _=>rfl
   have key:∀(mk:List Nat) (F:Option Code) (W:World),
     fk (λW=>Q .normal {E with ds:=mk++E.ds} W) (λW=>Q .ret {E with ds:=mk++E.ds} W) (λid W=>Q (.exit id) {E with ds:=mk++E.ds} W) F W->
     fk (λW=>z .normal {E with ds:=mk++E.ds} W) (λW=>z .ret {E with ds:=mk++E.ds} W) (λid W=>z (.exit id) {E with ds:=mk++E.ds} W) F W:=by
    intro mk F W p;unfold fk at*;split at p
    ·exact d _ _ _ (M mk) (λh=>by cases h) p
    ·exact d _ _ _ (M mk) (λh=>by cases h) p
    ·exact d _ _ _ (M mk) (λh=>by cases h) p
    ·exact p.elim
   cases ro with
   |none=>
    intro N h1 h2 h3 hy;refine(h N h1 h2 h3 hy).mono ?_;rintro v W ⟨r,hr,D,ha⟩;exact⟨r,hr,D,key _ _ _ ha⟩
   |some l0=>
    obtain⟨r0,hr0,h⟩:=h;refine⟨r0,hr0,λN h1 h2 h3 hy=>?_⟩;refine(h N h1 h2 h3 hy).mono ?_;rintro v W ⟨r,hr,D,ha⟩;exact⟨r,hr,D,key _ _ _ ha⟩
  ·exact h.elim
 |exit id=>intro ro Q z E w h d;exact d _ _ _ (.refl _ _) (λ_=>rfl) h
 |scope c O=>
  intro ro Q z E w h d;cases ro with
  |some l=>exact h.elim
  |none=>
   refine O none _ _ E w h λe u B n m j=>?_;cases e with
   |goto l=>exact j.elim
   |exit id=>exact d _ _ _ n m j
   |normal=>exact d _ _ _ n m j
   |ret=>exact d _ _ _ n m j
   |panic S=>exact d _ _ _ n m j
   |outgrown=>exact d _ _ _ n m j
 |label l=>intro ro Q z E w h d;exact d _ _ _ (.refl _ _) (λ_=>rfl) h
 |goto l=>intro ro Q z E w h d;exact h.elim
 |ret=>intro ro Q z E w h d;exact d _ _ _ (.refl _ _) (λ_=>rfl) h
 |refuse why=>intro ro Q z E w h d;exact h.elim
def jS{E E' :dy}(h:∀t,E'.get t=E.get t):∀l,fU E' l=fU E l
 | []=>rfl
 |t::l=>by
  simp only[fU,h t];rw[jS h l]
def vF:∀{l:List Nat} {s:Do l} {r:List (Nat×Option Value)} {g:Nat->Value} {ds:List Nat},l.Nodup->fU {l:=kI l s r,g:=g,ds:=ds} l=s
 | [],_,_,_,_,_=>rfl
 |t::l,(v,s),r,g,ds,d=>by
  obtain⟨b,d⟩:=List.nodup_cons.1 d;simp only[fU];refine Prod.ext ?_ ?_
  ·simp[dy.get,kI,dy.look]
  ·simp only
   have e:∀a:List Nat,t ∉ a->fU {l:=kI (t::l) (v,s) r,g:=g,ds:=ds} a=fU {l:=kI l s r,g:=g,ds:=ds} a:=by
    intro a;induction a with
    |nil=>intro _;rfl
    |cons k a j=>
     intro f
     have c:Nat.beq t k=false:=by
      cases h:Nat.beq t k with
      |false=>rfl
      |true=>exact absurd (by rw[Nat.eq_of_beq_eq_true h];exact List.mem_cons_self) f
     simp only[fU];rw[j λi=>f (List.mem_cons_of_mem _ i)];congr 1;simp[dy.get,kI,dy.look,c]
   rw[e l b];exact vF d
def mu{ds:List Nat}:∀{l:List (Nat×Option Value)} {acc:List Nat},acc.Nodup->(dR ds l acc).Nodup
 | [],acc,h=>by simpa [dR]using h
 |(k,v)::r,acc,h=>by
  unfold dR;cases a:ds.contains k&& !acc.contains k with
  |true=>
   simp only[Bool.and_eq_true]at a;exact mu (List.nodup_cons.2 ⟨by simpa using a.2,h⟩)
  |false=>exact mu h
def rQ{n:Nat}{E E1 e:dy}{ds:List Nat}{a:Act}{mk:List Nat}(h1:Fr ds E e)(c:nP n e a)(h:e.ds=mk):
  nP n (iZ E ds (dR ds E.l []) (fU e (dR ds E.l [])) (λt=>a.tmps.getD t undef) mk) a:=by
 refine⟨c.size,λt=>?_,by rw[c.defs,h];rfl⟩;by_cases d:t∈ds
 ·by_cases g:t∈dR ds E.l []
  ·unfold dy.get iZ;simp only[iS g];exact c.get t
  ·have b:dy.look E.l t=none:=by
    apply Classical.byContradiction;intro f;exact g (ky d f)
   unfold dy.get iZ;have:ds.contains t=true:=by simpa using d
   simp only[iH g,b,this]
 ·rw[lW t d,<-h1 t d];exact c.get t
def zA{n:Nat}{E h:dy}{ds b:List Nat}{a:Act}{mk:List Nat}(d:∀t∈ds,dy.look E.l t≠none->t∈b)(e:∀t∈b,t∈ds)(h1:Fr ds E h)(f:nP n h a)(k:h.ds=mk):
  nP n (iZ E ds b (fU h b) (λt=>a.tmps.getD t undef) mk) a:=by
 refine⟨f.size,λt=>?_,by rw[f.defs,k];rfl⟩;by_cases g:t∈ds
 ·by_cases j:t∈b
  ·unfold dy.get iZ;simp only[iS j];exact f.get t
  ·have c:dy.look E.l t=none:=by
    apply Classical.byContradiction;intro i;exact j (d t g i)
   unfold dy.get iZ;have:ds.contains t=true:=by simpa using g
   simp only[iH j,c,this]
 ·rw[vZ e t g,<-h1 t g];exact f.get t
def tn{E:dy}{ds:List Nat}:∀t,(iZ E ds (dR ds E.l []) (fU E (dR ds E.l [])) E.g E.ds).get t=E.get t:=by
 intro t;by_cases d:t∈ds
 ·by_cases c:t∈dR ds E.l []
  ·simp only[dy.get,iZ,iS c]
  ·have a:dy.look E.l t=none:=by
    apply Classical.byContradiction;intro b;exact c (ky d b)
   have:ds.contains t=true:=by simpa using d
   simp only[dy.get,iZ,iH c,this,a]
 ·exact lW t d
def sg{E:dy}{ds:List Nat}{s:Do (dR ds E.l [])}{g:Nat->Value}{mk:List Nat}:fU (iZ E ds (dR ds E.l []) s g mk) (dR ds E.l [])=s:=
 vF (mu List.nodup_nil)
def LG(a:Act):dy:={l:=[],g:=λt=>a.tmps.getD t undef,ds:=a.defers.map λd=>match d.target with| .collected r=>r|_=>0}
def nP.actE{n:Nat}{E:dy}{a:Act}(h:nP n E a):(∀t,(Vc.LG a).get t=E.get t)/\(Vc.LG a).ds=E.ds:=by
 refine⟨h.get,?_⟩;unfold Vc.LG;simp only;rw[h.defs,List.map_map]
 conv=>rhs;rw[<-List.map_id E.ds]
 exact List.map_congr_left λ_ _=>rfl
def sy{P:Program}(i:mU P=true){f:FuncId}{a:Array Value}{w w1:World}{K:cm}(h:Ca P f a w K):
  (callFunc f a).run P w1=.ok (.enter f a) w1:=by
 obtain⟨fn,e,g⟩:=h.bodied
 have d:(fn.name== "runtime.NumGoroutine")=false:=by
  have:=(Array.all_eq_true'.1 i) fn (Array.mem_of_getElem? e);simpa using this
 have b:¬fn.name= "runtime.NumGoroutine" :=by simpa using d
 have c:¬fn.body=none:=by intro j;rw[j]at g;exact absurd g (by simp)
 unfold callFunc;simp[Sem.run_bind,Result.andThen,e,b,c]
def tI{n:Nat}:∀(f:List Nat) (i:Nat) (b:List Value) (E:dy) (c:Array Value),(f.all λd=>Nat.blt d n)=true->b.length=i+f.length->nP n E {tmps:=c,defers:=[]}->
  nP n {E with l:=pw f i b E.l} {tmps:=(f.zip (b.drop i)).foldl (λc (t,a)=>c.setIfInBounds t a) c,defers:=[]}
 | [],_,_,E,c,_,_,h=>by simpa [pw]using h
 |t::f,i,b,E,c,e,g,h=>by
  simp only[List.all_cons,Bool.and_eq_true]at e;simp only[List.length_cons]at g;have j:i<b.length:=by omega
  have k:b.drop i=b[i]::b.drop (i+1):=List.drop_eq_getElem_cons j;have m:b.getD i undef=b[i]:=by simp[j]
  have h1:nP n (E.put (some t) b[i]) (({tmps:=c,defers:=[]}:Act).put (some t) b[i]):=h.put (d:=some t) e.1 _;have:=tI f (i+1) b (E.put (some t) b[i]) (c.setIfInBounds t b[i]) e.2 (by omega) h1;rw[k];simpa only[pw,dy.put,m,List.zip_cons_cons,List.foldl_cons]using this
def Db(d:Array Nat)(c:List Value)(b:Array Value):
  (d.zip ⟨c⟩).foldl (λb (t,a)=>b.setIfInBounds t a) b=(d.toList.zip c).foldl (λb (t,a)=>b.setIfInBounds t a) b:=by
 rw[<-Array.foldl_toList];simp
def oL{P:Program}{w:World}{l0:Nat}{r:Loop}(h:w.heap[l0]? =some (.loop r))(fn:FuncId)(tmps:Array Value)(a:Array Tmp)(assign body:Code):
  (Instr.enterLoop fn tmps a assign body (some l0)).run P w=
   .ok (w.heap.size,[]) (w.alloc (.loop {state:=.ready,pending:=none,fn,tmps,params:=a,assign,body,defers:=r.defers})):=by
 unfold Instr.enterLoop;simp only[Sem.run_bind,run_getLoop h,Result.andThen,Sem.run_pure,run_newObj_alloc]
def Ew{P:Program}{jn:Bool}(hP:mU P=true){n:Nat}:∀(c:Code) (ro:Option Nat) (Q:Exit->dy->World->Prop) (H:Exit->Act->World->Prop) (E:dy) (a:Act) (w:World),
  zz P n c=true->nP n E a->(∀e E a w,nP n E a->Q e E w->H e a w)->vc P jn ro c Q E w->c.wpIn (FR ro) 0 P H a w:=by
 intro c;induction c with
 |skip=>intro ro Q H E a w _ A p h;exact wpIn_skip (p _ _ _ _ A h)
 |region id M draw=>
  intro ro Q H E a w q A p h;simp only[zz,Bool.and_eq_true]at q;cases draw with
  |false=>exact wpIn_region_list (wp (ops:=M.toList) hP (p .normal) M.toList q.1 E a w A h)
  |true=>
   have V:=q.2;simp only[Bool.not_true,Bool.false_or,Bool.and_eq_true]at V;refine wpIn_region_any V.1 ?_
   have:=CY (ro:=ro) (ops:=M.toList) hP V.2 q.1 (p .normal) M.size [] [] [] [] E a w.drew (M.toList.length+1) (Array.replicate M.size false)
    ⟨(λi=>by simp),(λi hi=>by cases hi),List.nodup_nil,trivial,(λi hi=>by cases hi),A.size,A.defs,(λt _=>A.get t),(λi hi=>by cases hi)⟩
    (λi hi=>by simp at hi;simp[hi]) (by simp) (by simp) (by simpa using List.length_filter_le _ (List.range M.size)) h
   simpa using this
 |seq x y ihx ihy=>
  intro ro Q H E a w q A p h;simp only[zz,Bool.and_eq_true]at q;simp only[vc]at h;cases hj:jn&& yR x y with
  |true=>
   rw[hj]at h;simp only[nI]at h;obtain⟨J,hJ,hA⟩:=h.out;simp only[Bool.and_eq_true]at hj;have hrf:=yz hj.2
   have hA' :=xq x ro _ (λe L S=>(match e with| .normal=>J (fU L (B5 (d7 x) E.l (kN y))) S|e=>Q e L S)/\Fr (d7 x) E L/\L.ds=E.ds) _ w hA
    (λe L S X hd o=>⟨by cases e<;>exact o,X,hd hrf⟩)
   refine wpIn_seq (ihx ro _ _ E a w q.1 A (λe E1 Y u k o=>?_) hA');obtain⟨o,X,hd⟩:=o;cases e with
   |normal=>exact ihy ro Q H _ Y u q.2 (zA (λt ht hne=>Cz ht hne) vi X k hd) p (hJ _ _ o _)
   |exit id=>exact p _ _ _ _ k o
   |goto id=>exact p _ _ _ _ k o
   |ret=>exact p _ _ _ _ k o
   |panic ch=>exact p _ _ _ _ k o
   |outgrown=>exact p _ _ _ _ k o
  |false=>
  rw[hj]at h;refine wpIn_seq (ihx ro _ _ E a w q.1 A (λe E1 Y u k o=>?_) h);cases e with
  |normal=>exact ihy ro Q H E1 Y u q.2 k p o
  |exit id=>exact p _ _ _ _ k o
  |goto id=>exact p _ _ _ _ k o
  |ret=>exact p _ _ _ _ k o
  |panic ch=>exact p _ _ _ _ k o
  |outgrown=>exact p _ _ _ _ k o
 |cond c t f iht ihf=>
  intro ro Q H E a w q A p h;simp only[zz,Bool.and_eq_true]at q;simp only[vc,xH]at h;split at h
  ·rename_i b U
   have hb' :a.eval c=.bool b:=by rw[A.ev];exact U
   cases b with
   |true=>exact wpIn_cond hb' (iht ro Q H E a w q.1 A p h)
   |false=>exact wpIn_cond hb' (ihf ro Q H E a w q.2 A p h)
  ·exact h.elim
 |block id c ih=>
  intro ro Q H E a w q A p h;refine wpIn_block (ih ro _ _ E a w q A (λe E1 Y u k o=>?_) h);cases e with
  |exit i=>
   simp only at o;cases U:Nat.beq i id with
   |true=>
    rw[U]at o;simp only[bc]at o;simp only[Exit.inBlock,Nat.eq_of_beq_eq_true U,if_true];exact p _ _ _ _ k o
   |false=>
    rw[U]at o;have hne:¬i=id:=λe=>by subst e;simp at U
    simp only[Exit.inBlock,hne,if_false];exact p _ _ _ _ k o
  |normal=>exact p _ _ _ _ k o
  |goto id=>exact p _ _ _ _ k o
  |ret=>exact p _ _ _ _ k o
  |panic ch=>exact p _ _ _ _ k o
  |outgrown=>exact p _ _ _ _ k o
 |loop c ih=>
  intro ro Q H E a w q A p h;simp only[vc,nI]at h;cases hrf:g9 c with
  |false=>
   rw[hrf]at h;obtain⟨I,m,h0,h1⟩:=h.out
   refine wpIn_loop (λa w=>∃s g,nP n (iZ E (d7 c) (dR (d7 c) E.l []) s g E.ds) a/\I s w) (λa w=>m (fU (LG a) (dR (d7 c) E.l [])) w)
    ⟨_,E.g,A.of_get tn rfl,h0⟩ ?_
   rintro Y u ⟨s,g,k,hI⟩
   have U:=xq c ro _ (λe L S=>(match e with| .normal=>I (fU L (dR (d7 c) E.l [])) S/\m (fU L (dR (d7 c) E.l [])) S<m s u|e=>Q e L S)/\Fr (d7 c) E L/\L.ds=E.ds) _ u (h1 s u hI g)
    (λe L S X hd o=>⟨by cases e<;>exact o,lW.trans X,hd hrf⟩)
   refine ih ro _ _ _ Y u q k (λe E2 a2 w2 z o=>?_) U;obtain⟨o,X,hd⟩:=o;cases e with
   |normal=>
    refine⟨⟨_,_,rQ (E1:=E) X z hd,o.1⟩,?_⟩;rw[jS (z.actE.1),jS (k.actE.1),sg];exact o.2
   |exit id=>exact p _ _ _ _ z o
   |goto id=>exact p _ _ _ _ z o
   |ret=>exact p _ _ _ _ z o
   |panic ch=>exact p _ _ _ _ z o
   |outgrown=>exact p _ _ _ _ z o
  |true=>
   rw[hrf]at h;obtain⟨I,m,h0,h1⟩:=h.out
   refine wpIn_loop (λa w=>∃s g,nP n (iZ E (d7 c) (dR (d7 c) E.l []) s.1 g s.2) a/\I s w) (λa w=>m (fU (LG a) (dR (d7 c) E.l []),(LG a).ds) w)
    ⟨(_,E.ds),E.g,A.of_get tn rfl,h0⟩ ?_
   rintro Y u ⟨s,g,k,hI⟩
   have U:=xq c ro _ (λe L S=>(match e with| .normal=>I (fU L (dR (d7 c) E.l []),L.ds) S/\m (fU L (dR (d7 c) E.l []),L.ds) S<m s u|e=>Q e L S)/\Fr (d7 c) E L) _ u (h1 s u hI g)
    (λe L S X hd o=>⟨by cases e<;>exact o,lW.trans X⟩)
   refine ih ro _ _ _ Y u q k (λe E2 a2 w2 z o=>?_) U;obtain⟨o,X⟩:=o;cases e with
   |normal=>
    refine⟨⟨(_,E2.ds),_,rQ (E1:=E) X z rfl,o.1⟩,?_⟩;rw[jS (z.actE.1),jS (k.actE.1),sg,z.actE.2,k.actE.2];exact o.2
   |exit id=>exact p _ _ _ _ z o
   |goto id=>exact p _ _ _ _ z o
   |ret=>exact p _ _ _ _ z o
   |panic ch=>exact p _ _ _ _ z o
   |outgrown=>exact p _ _ _ _ z o
 |rangeFunc gv ps assign body iha ihb=>
  intro ro Q H E a w q A p h;simp only[zz,Bool.and_eq_true]at q;obtain⟨⟨hps,hoka⟩,hokb⟩:=q;simp only[vc,mi,P4]at h;split at h
  ·rename_i f first j hgv
   have hgv' :a.eval gv=.func (.func f) first j:=by rw[A.ev];exact hgv
   have main:∀(u:World) (D:Nat) (mk:List Nat) (fn:FuncId),
     (∀rec:Loop,rec.state=.ready->rec.pending=none->rec.defers=D->
      (∀(B:List Value) (W:World) (K:cm),B.length=ps.toList.length->EW W u.heap.size rec->
       vc P jn (some u.heap.size) assign (λe E W=>match e with
        | .normal=>iF u.heap.size W λW=>vc P jn (some u.heap.size) body (λe _ W=>match e with
         | .normal=>∃r,mR W u.heap.size r/\K (.bool true) (W.putObj u.heap.size (.loop {r with state:=.ready,pending:=none}))
         | .ret=>∃r,mR W u.heap.size r/\K (.bool false) (W.putObj u.heap.size (.loop {r with state:=.done,pending:=some .ret}))
         | .exit id=>∃r,mR W u.heap.size r/\K (.bool false) (W.putObj u.heap.size (.loop {r with state:=.done,pending:=some (.exit id)}))
         |_=>False) E W
        |_=>False) {E with l:=pw ps.toList 0 B E.l,ds:=[]} W->
       Yl P u.heap.size ⟨B⟩ W K)->
      Ca P f ⟨first.toList++(.func (.yield u.heap.size) #[] #[]::j.toList)⟩ (u.alloc (.loop rec)) λ_ W=>
       ∃r,mR W u.heap.size r/\r.state≠ .busy/\fk (λW=>Q .normal {E with ds:=mk++E.ds} W) (λW=>Q .ret {E with ds:=mk++E.ds} W)
        (λid W=>Q (.exit id) {E with ds:=mk++E.ds} W) r.pending (W.putObj u.heap.size (.loop {r with state:=.exhausted})))->
     let rc:Loop:={state:=.ready,pending:=none,fn,tmps:=a.tmps,params:=ps,assign,body,defers:=D}
     let a' :Act:={a with defers:=(mk.map λd=>{target:=.collected d,args:=#[]})++a.defers}
     CallsIn (FR ro) 0 P f ⟨first.toList++(.func (.yield u.heap.size) #[] #[]::j.toList)⟩ (u.alloc (.loop rc)) (rangePost (FR ro) 0 P u.heap.size H a')/\
      ∀w2,(callFunc f ⟨first.toList++(.func (.yield u.heap.size) #[] #[]::j.toList)⟩).run P w2=.ok (.enter f ⟨first.toList++(.func (.yield u.heap.size) #[] #[]::j.toList)⟩) w2:=by
    intro u D mk fn hh rc a'
    have hca:=hh rc rfl rfl rfl (λB W K hlen hrec hrnd=>by
     obtain⟨st,pend,hat⟩:=hrec;refine⟨_,_,_,_,run_yield hat (by simpa using hlen),?_⟩;refine roundIn_of_wpIn (F:=Fence.wide) trivial ?_
     have hrel:nP n {E with l:=pw ps.toList 0 B E.l,ds:=[]} {tmps:=(ps.zip ⟨B⟩).foldl (λO (t,a)=>O.setIfInBounds t a) a.tmps,defers:=[]}:=by
      rw[Db];exact tI ps.toList 0 B {E with ds:=[]} a.tmps hps (by simpa using hlen) ⟨A.size,A.get,rfl⟩
     refine iha (some u.heap.size) _ _ _ _ W hoka hrel (λe E1 Y T k o=>?_) hrnd;cases e with
     |normal=>
      obtain⟨r,hra,hst,hbody⟩:=o.out;refine⟨_,run_beginRound hra hst,?_⟩;refine ihb (some u.heap.size) _ _ E1 Y _ hokb k (λe E2 a2 W2 z R=>?_) hbody;cases e with
      |normal=>
       obtain⟨r2,N,hK⟩:=R;exact⟨_,_,run_endRound none N,_,rfl,hK⟩
      |ret=>
       obtain⟨r2,N,hK⟩:=R;exact⟨_,_,run_endRound _ N,_,rfl,hK⟩
      |exit id=>
       obtain⟨r2,N,hK⟩:=R;exact⟨_,_,run_endRound _ N,_,rfl,hK⟩
      |goto id=>exact R.elim
      |panic ch=>exact R.elim
      |outgrown=>exact R.elim
     |exit id=>exact o.elim
     |goto id=>exact o.elim
     |ret=>exact o.elim
     |panic ch=>exact o.elim
     |outgrown=>exact o.elim)
    refine⟨FR.calls (Calls.mono hca.out ?_),λw2=>sy hP hca⟩;rintro e W ⟨v,rfl,r,hra,U,G⟩;refine⟨_,_,run_endLoop hra U,?_⟩;have hr' :nP n {E with ds:=mk++E.ds} a' :=⟨A.size,A.get,by simp only[a',A.defs,List.map_append]⟩
    generalize W.putObj u.heap.size (.loop {r with state:=.exhausted})=W4 at G|-;unfold fk at G;split at G
    ·rename_i hp;rw[hp];exact p _ _ _ _ hr' G
    ·rename_i hp;rw[hp];exact wpIn_ret (p _ _ _ _ hr' G)
    ·rename_i hp;rw[hp];exact wpIn_exit (p _ _ _ _ hr' G)
    ·exact G.elim
   refine wpIn_rangeFunc λfn _=>?_
   have hinv:∀l:Nat,(do let d<-resolve a.eval (rangeCall gv l) 0;invoke d.target d.args:Sem Next)=callFunc f ⟨first.toList++(.func (.yield l) #[] #[]::j.toList)⟩:=by
    intro l;have e1:resolve a.eval (rangeCall gv l) 0=Deferred.ofValue (a.eval gv) #[.func (.yield l) #[] #[]]:=by simp[resolve,Act.eval]
    rw[e1,hgv'];have e2:(do let d<-Deferred.ofValue (.func (.func f) first j) #[.func (.yield l) #[] #[]];invoke d.target d.args:Sem Next)=callFunc f (first++ #[.func (.yield l) #[] #[]]++j):=rfl;rw[e2];congr 1;apply Array.ext';simp
   have hres:∀(l:Nat) (u:World),(resolve a.eval (rangeCall gv l) 0).run P u=.ok {target:=.fn (.func f) j,args:=first++ #[.func (.yield l) #[] #[]]} u:=by
    intro l u;have e1:resolve a.eval (rangeCall gv l) 0=Deferred.ofValue (a.eval gv) #[.func (.yield l) #[] #[]]:=by simp[resolve,Act.eval]
    rw[e1,hgv'];rfl
   have hinv2:∀l:Nat,(invoke (.fn (.func f) j) (first++ #[.func (.yield l) #[] #[]]):Sem Next)=callFunc f ⟨first.toList++(.func (.yield l) #[] #[]::j.toList)⟩:=by
    intro l;have e2:(invoke (.fn (.func f) j) (first++ #[.func (.yield l) #[] #[]]):Sem Next)=callFunc f (first++ #[.func (.yield l) #[] #[]]++j):=rfl;rw[e2];congr 1;apply Array.ext';simp
   cases ro with
   |none=>
    have hm:=main (w.alloc (.deferred (some []))) w.heap.size [w.heap.size] fn h;obtain⟨T,Z⟩:∃T,T=(w.alloc (.deferred (some []))).alloc (.loop {state:=.ready,pending:=none,fn,tmps:=a.tmps,params:=ps,assign,body,defers:=w.heap.size}):=⟨_,rfl⟩
    have hm1:=hm.1;have hm2:=hm.2 T;rw[World.size_alloc]at hm1 hm2;refine⟨w.heap.size+1,[{target:=.collected w.heap.size,args:=#[]}],T,_,T,f,⟨first.toList++(.func (.yield (w.heap.size+1)) #[] #[]::j.toList)⟩,T,?_,hres _ _,λ_ _=>FR.fn none _,?_,(λhh=>by rw[FR.depth]at hh;cases hh),?_⟩
    ·rw[Z];exact run_enterLoop_outer fn a.tmps ps assign body
    ·rw[hinv2];exact hm2
    ·rw[Z];exact hm1
   |some l0=>
    obtain⟨r0,hr0,h⟩:=h;have hm:=main w r0.defers [] fn h;obtain⟨T,Z⟩:∃T,T=w.alloc (.loop {state:=.ready,pending:=none,fn,tmps:=a.tmps,params:=ps,assign,body,defers:=r0.defers}):=⟨_,rfl⟩
    refine⟨w.heap.size,[],T,_,T,f,⟨first.toList++(.func (.yield w.heap.size) #[] #[]::j.toList)⟩,T,?_,hres _ _,λ_ _=>FR.fn (some l0) _,?_,(λhh=>by rw[FR.depth]at hh;cases hh),?_⟩
    ·rw[FR.round,Z];exact oL hr0 fn a.tmps ps assign body
    ·rw[hinv2];exact hm.2 _
    ·rw[Z];exact hm.1
  ·exact h.elim
 |exit id=>intro ro Q H E a w _ A p h;exact wpIn_exit (p _ _ _ _ A h)
 |scope c ih=>
  intro ro Q H E a w q A p h;cases ro with
  |some l=>exact h.elim
  |none=>
   show Code.wpIn Fence.wide 0 P _ _ _ _;refine wpIn_wide.2 (wp_scope_straight ((wpIn_wide (n:=0)).1 ?_));refine ih none (λe E w=>match e with| .goto _=>False|e=>Q e E w) (Exit.noGoto H) E a w q A (λe E1 Y u k o=>?_) h;cases e with
   |goto l=>exact o.elim
   |exit id=>exact p _ _ _ _ k o
   |normal=>exact p _ _ _ _ k o
   |ret=>exact p _ _ _ _ k o
   |panic ch=>exact p _ _ _ _ k o
   |outgrown=>exact p _ _ _ _ k o
 |label l=>intro ro Q H E a w _ A p h;exact wpIn_label (p _ _ _ _ A h)
 |goto l=>intro ro Q H E a w _ A p h;exact h.elim
 |ret=>intro ro Q H E a w _ A p h;exact wpIn_ret (p _ _ _ _ A h)
 |refuse why=>intro ro Q H E a w _ A p h;exact h.elim
def jF:List Nat->World->(World->Prop)->Prop
 | [],w,K=>K w
 |d::ds,w,K=>w.heap[d]? =some (.deferred (some []))/\jF ds (w.putObj d (.deferred none)) K
def wo(P:Program):List ResultVar->dy->World->(List Value->Prop)->Prop
 | [],_,_,K=>K []
 | .tmp t::r,E,w,K=>wo P r E w λvs=>K (E.get t::vs)
 | .cell a t::r,E,w,K=>match uQ P t with
  |true=>iD P (dh t (E.get a)) w λv=>wo P r E w λvs=>K (v::vs)
  |false=>sY P (Instr.loadAt t (E.get a)) w λv=>wo P r E w λvs=>K (v::vs)
def yo:List Value->Value
 | [v]=>v
 |vs=>.tuple ⟨vs⟩
def vy:Nat->List Value->List (Nat×Option Value)
 |_,[]=>[]
 |i,v::r=>(i,some v)::vy (i+1) r
def D2(P:Program)(jn:Bool)(fn:Func)(args:List Value)(w:World)(K:cm):Prop:=
 match fn.body with
 |none=>False
 |some c=>vc P jn none c (λe E w=>match e with
   | .normal=>jF E.ds w λw=>wo P fn.results.toList E w λvs=>K (yo vs) w
   | .ret=>jF E.ds w λw=>wo P fn.results.toList E w λvs=>K (yo vs) w
   |_=>False) {l:=vy 0 args,g:=λ_=>undef,ds:=[]} w
def JT(P:Program)(fn:Func)(args:List Value)(w:World)(K:cm):Prop:=D2 P true fn args w K
def P9(P:Program)(fn:Func)(k:Nat):Bool:=
 Nat.ble k fn.ntmps&& match fn.body with
 |none=>false
 |some c=>zz P fn.ntmps c
def uE(t:Nat):∀(l:List Value) (i:Nat),dy.look (vy i l) t=if i<=t then(l[t - i]?).map some else none
 | [],i=>by simp[vy,dy.look]
 |v::r,i=>by
  simp only[vy,dy.look];cases b:Nat.beq i t with
  |true=>have:=Nat.eq_of_beq_eq_true b;subst this;simp
  |false=>
   have c:i≠t:=λe=>by subst e;simp at b
   simp only[cond_false];rw[uE t r (i+1)];by_cases h:i+1<=t
   ·have a:i<=t:=by omega
    have d:t - i=(t - (i+1))+1:=by omega
    simp[h,a,d]
   ·have a:¬i<=t:=by omega
    simp[h,a]
def Ck(a:List Value)(n:Nat)(h:a.length<=n):
  nP n {l:=vy 0 a,g:=λ_=>undef,ds:=[]} {tmps:=(⟨a⟩:Array Value)++Array.replicate (n - a.length) undef,defers:=[]}:=by
 refine⟨by simp;omega,λt=>?_,rfl⟩;unfold dy.get;rw[uE];simp only[Nat.zero_le,if_true,Nat.sub_zero];by_cases b:t<a.length
 ·rw[Array.getD_eq_getD_getElem?,Array.getElem?_append_left (by simpa using b)];simp[List.getElem?_eq_getElem b]
 ·rw[List.getElem?_eq_none (by omega)];rw[Array.getD_eq_getD_getElem?,Array.getElem?_append_right (by simpa using Nat.le_of_not_lt b)];simp only[Option.map_none];cases c:(Array.replicate (n - a.length) undef)[t - (⟨a⟩:Array Value).size]? with
  |none=>rfl
  |some v=>
   have:=(Array.getElem?_eq_some_iff.1 c).2;simp at this;simp[this]
def uv(tmps:Array Value):ResultVar->Sem Value
 | .tmp t=>pure (tmps.getD t undef)
 | .cell a t=>do loadVar t (<-asAddr (tmps.getD a undef))
def uo{P:Program}{b:Array Value}{E:dy}{w:World}(e:∀t,b.getD t undef=E.get t):∀(k:List ResultVar) (K:List Value->Prop),wo P k E w K->
  ∃c,(k.mapM (uv b)).run P w=.ok c w/\K c
 | [],K,h=>⟨[],rfl,h⟩
 | .tmp t::r,K,h=>by
  obtain⟨c,h1,f⟩:=uo e r _ h;refine⟨_,?_,f⟩;have g:(uv b (.tmp t)).run P w=.ok (E.get t) w:=by rw[<-e];rfl
  simp only[List.mapM_cons,Sem.run_bind,Sem.run_pure,Result.andThen,g,h1]
 | .cell a t::r,K,h=>by
  have h:sY P (Instr.loadAt t (E.get a)) w λv=>wo P r E w λc=>K (v::c):=by
   simp only[wo]at h;cases j:uQ P t with
   |true=>rw[j]at h;exact h.out
   |false=>rw[j]at h;exact h
  simp only[qO,yr]at h;split at h
  ·rename_i v i d
   obtain⟨rfl,h⟩:=h;obtain⟨c,h1,f⟩:=uo e r _ h;refine⟨_,?_,f⟩
   have g:(uv b (.cell a t)).run P i=.ok v i:=by
    have l:uv b (.cell a t)=(do loadVar t (<-asAddr (b.getD a undef))):=rfl;rw[l,e];unfold Instr.loadAt at d;cases m:E.get a<;>rw[m]at d<;>first|(simp[Instr.sureAddr,stuck,Sem.run_bind,Sem.run,Result.andThen]at d;done)|skip
    rename_i p
    cases p with
    |none=>simp[Instr.sureAddr,stuck,Sem.run_bind,Sem.run,Result.andThen]at d
    |some p=>
     simp only[Instr.sureAddr,asAddr,Sem.run_bind,Sem.run_pure,Result.andThen]at d|-;exact d
   simp only[List.mapM_cons,Sem.run_bind,Sem.run_pure,Result.andThen,g,h1]
  ·exact h.elim
def A7(fn:Func)(a:Array Value):results fn a=(do
  let b<-fn.results.mapM (uv a)
  pure (if h:b.size=1 then b[0]else .tuple b)):=by
 unfold results;congr 1
def rq{P:Program}{fn:Func}{a:Array Value}{E:dy}{K:cm}(c:∀t,a.getD t undef=E.get t):∀(ds:List Nat) (w:World),
  jF ds w (λw=>wo P fn.results.toList E w λb=>K (yo b) w)->
  LeavesInM Fence.wide 0 P fn a (λe f=>∃v,e=.returned v/\K v f) (ds.map λd=>{target:=.collected d,args:=#[]}) .returning w
 | [],w,h=>by
  obtain⟨b,h1,g⟩:=uo c _ _ h;refine⟨yo b,?_,_,rfl,g⟩;rw[A7,Array.mapM_eq_mapM_toList];simp only[Sem.run_bind,Sem.run_map,h1,Result.andThen,Sem.run_pure];congr 1
  match b with
  | []=>rfl
  | [v]=>rfl
  |v::u::r=>simp[yo]
 |d::ds,w,h=>by
  refine⟨by simp,.inl ⟨d,_,rfl,run_takeDeferred h.1,rq c ds _ h.2⟩⟩
def Cx{P:Program}{o:Bool}(q:mU P=true){f:FuncId}{fn:Func}{b:List Value}{w:World}{K:cm}(p:P.funcs[f]? =some fn)(d:P9 P fn b.length=true)
  (h:D2 P o fn b w K):Ca P f ⟨b⟩ w K:=by
 unfold P9 at d;unfold D2 at h;simp only[Bool.and_eq_true]at d;obtain⟨i,d⟩:=d;cases m:fn.body with
 |none=>rw[m]at h;exact h.elim
 |some c=>
  rw[m]at h d;refine⟨(callsIn_wide (n:=0)).1 (callsIn_of_wp_marks p m trivial ?_ rfl)⟩;have j:=Ck b fn.ntmps (by simpa [Nat.ble_eq]using i);refine Ew (n:=fn.ntmps) q c none _ _ _ _ w d j (λe E a r l g=>?_) h;cases e with
  |normal=>have k:=rq (K:=K) l.get _ _ g;rw[<-l.defs]at k;exact k
  |ret=>have k:=rq (K:=K) l.get _ _ g;rw[<-l.defs]at k;exact k
  |exit id=>exact g.elim
  |goto id=>exact g.elim
  |panic s=>exact g.elim
  |outgrown=>exact g.elim
def Dc{P:Program}(d:mU P=true){f:FuncId}{fn:Func}{a:List Value}{w:World}{K:cm}(c:P.funcs[f]? =some fn)(b:P9 P fn a.length=true)
  (h:JT P fn a w K):Ca P f ⟨a⟩ w K:=Cx d c b h
@[simp,go_sem] theorem ci (b:Bool) (T F:Prop):cz (.bool b) T F↔if b=true then T else F:=by cases b<;>simp[cz,xH,bc]
@[simp,go_sem] theorem Nt (b:Bool) (K:Bool->Prop):xH (.bool b) K↔K b:=Iff.rfl
@[simp,go_sem] theorem cw (a:Addr) (K:Value->Prop):cD (.pointer (some a)) K↔K (.pointer (some a)):=Iff.rfl
@[simp,go_sem] theorem Sc (b:Bool) (T F:Prop):bc b T F↔if b=true then T else F:=by cases b<;>simp[bc]
@[simp,go_sem] theorem P8 (b:Bool) (x y:Value):I6 b x y=if b=true then x else y:=by cases b<;>rfl
def Gj{P:Program}{s s' :Sem Value}{w w' :World}{K:cm}(h1:s=s')(a:w=w'):rv P s w K=rv P s' w' K:=by rw[h1,a]
def Ee{P:Program}{s s' :Sem Unit}{w w' :World}{K:World->Prop}(h1:s=s')(a:w=w'):ru P s w K=ru P s' w' K:=by rw[h1,a]
def Fs{P:Program}{s s' :Sem Next}{w w' :World}{K:cm}(h1:s=s')(a:w=w'):rn P s w K=rn P s' w' K:=by rw[h1,a]
def Dh{P:Program}{s s' :Sem Value}{w w' :World}{K:Value->Prop}(h1:s=s')(a:w=w'):sY P s w K=sY P s' w' K:=by rw[h1,a]
def CV{P:Program}{s s' :Sem Value}{K:Value->Prop}(h1:s=s'):sO P s K=sO P s' K:=by rw[h1]
def Hi{P:Program}{f:FuncId}{a b:Array Value}{w w' :World}{K:cm}(h1:a=b)(c:w=w'):Ca P f a w K=Ca P f b w' K:=by rw[h1,c]
def yK{P:Program}{f f' :Value}{a b:List Value}{w w' :World}{K:cm}(d:f=f')(h1:a=b)(c:w=w'):dX P f a w K=dX P f' b w' K:=by rw[d,h1,c]
def AT{v a:Value}{K:Value->Prop}(h:v=a):cD v K=cD a K:=by rw[h]
def CZ{v a:Value}{K:Bool->Prop}(h:v=a):xH v K=xH a K:=by rw[h]
def B9{v a:Value}{T F:Prop}(h:v=a):cz v T F=cz a T F:=by rw[h]
def yZ{S:Type}{a:S->World->(S->World->Prop)->Prop}{s s' :S}{w w' :World}(h1:s=s')(b:w=w'):cS a s w=cS a s' w' :=by rw[h1,b]
def Ed{P:Program}{s s' :Sem Value}{w w' :World}{K:cm}(h1:s=s')(a:w=w'):rx P s w K=rx P s' w' K:=by rw[h1,a]
def Cf{P:Program}{s s' :Sem Unit}{w w' :World}{K:World->Prop}(h1:s=s')(a:w=w'):gh P s w K=gh P s' w' K:=by rw[h1,a]
def C1{P:Program}{s s' :Sem Value}{w w' :World}{K:Value->Prop}(h1:s=s')(a:w=w'):iD P s w K=iD P s' w' K:=by rw[h1,a]
def AO{P:Program}{s s' :Sem Value}{K:Value->Prop}(h1:s=s'):E0 P s K=E0 P s' K:=by rw[h1]
attribute [congr] Ed Cf C1 AO Gj Ee Fs Dh CV Hi yK AT CZ B9 yZ
attribute [go_sem] t6 Kd tH JG iP CR qO yr HU Lp tf PX
@[go_sem] theorem eR {P:Program} {f:FuncId} {first a:Array Value} {b:List Value} {w:World} {K:cm}:dX P (.func (.func f) first a) b w K↔Ca P f ⟨first.toList++(b++a.toList)⟩ w K:=iI
def ut(P:Program)(t:TypeId):Bool:=match P.underlying t with|some (.map ..)=>true|_=>false
def qJ(P:Program)(t:TypeId):Bool:=match P.underlying t with|some (.slice ..)=>true|_=>false
@[go_sem] theorem pD {P:Program} {t:TypeId}:ut P t=true↔∃k e,P.underlying t=some (.map k e):=by
 unfold ut;split<;>simp_all
@[go_sem] theorem qn {P:Program} {t:TypeId}:qJ P t=true↔∃e,P.underlying t=some (.slice e):=by
 unfold qJ;split<;>simp_all
@[go_sem] theorem Gq {P:Program} {w:World} (t:TypeId) (m:Option Nat) (h:ut P t=true):(binOp .eql t (.map m) (.map none)).run P w=.ok (.bool m.isNone) w:=by
 obtain⟨k,e,h⟩:=pD.1 h;simp only[binOp];simp[run_equal_map_nil w t k e m h]
@[go_sem] theorem Fb {P:Program} {w:World} (t:TypeId) (m:Option Nat) (h:ut P t=true):(binOp .neq t (.map m) (.map none)).run P w=.ok (.bool (!m.isNone)) w:=by
 obtain⟨k,e,h⟩:=pD.1 h;simp only[binOp];simp[run_equal_map_nil w t k e m h]
@[go_sem] theorem Ch {P:Program} {w:World} (t:TypeId) (a:Option Addr) (l c:Nat) (h:qJ P t=true):(binOp .eql t (.slice a l c) (.slice none 0 0)).run P w=.ok (.bool a.isNone) w:=by
 obtain⟨e,h⟩:=qn.1 h;simp only[binOp];simp[run_equal_slice_nil w t e a l c h]
@[go_sem] theorem C3 {P:Program} {w:World} (t:TypeId) (a:Option Addr) (l c:Nat) (h:qJ P t=true):(binOp .neq t (.slice a l c) (.slice none 0 0)).run P w=.ok (.bool (!a.isNone)) w:=by
 obtain⟨e,h⟩:=qn.1 h;simp only[binOp];simp[run_equal_slice_nil w t e a l c h]
@[go_sem] theorem KO {P:Program} {w:World} (t:TypeId):(Instr.makeMap t none).run P w=.ok (.map (some w.heap.size)) (w.alloc (.map #[] 0)):=by
 simp[Instr.makeMap]
@[go_sem] theorem Dp {P:Program} {w:World} (t:TypeId) (k:IntKind) (n:Int) (h:ut P t=true):(Instr.makeMap t (some (.int k n))).run P w=.ok (.map (some w.heap.size)) (w.alloc (.map #[] 0)):=by
 obtain⟨k,e,h⟩:=pD.1 h;simp[Instr.makeMap,run_underlying h,asInt,asIntOf,Result.andThen]
def wJ(o:Option Obj)(i:Nat)(v:Value):Option Obj:=
 match o with
 |some (.cells c t fz)=>some (.cells (c.setIfInBounds i v) t fz)
 |o=>o
@[simp] theorem eO (c:Array Value) (t:TypeId) (a:Nat×Nat) (i:Nat) (v:Value):wJ (some (.cells c t a)) i v=some (.cells (c.setIfInBounds i v) t a):=rfl
def mH(w:World)(b i:Nat)(v:Value)(a:Nat):(w.setCell ⟨b,i,none⟩ v).heap[a]? =if a=b then wJ w.heap[b]? i v else w.heap[a]? :=by
 unfold World.setCell;simp only[Option.isSome_none,Bool.false_eq_true,if_false];rw[Array.getElem?_modify];by_cases h:b=a
 ·subst h;simp only[if_true];cases c:w.heap[b]? with
  |none=>rfl
  |some o=>cases o<;>rfl
 ·rw[if_neg h,if_neg (λe=>h e.symm)]
def cY(w:World)(o:Obj)(a:Nat):(w.alloc o).heap[a]? =if a=w.heap.size then some o else w.heap[a]? :=by
 show(w.heap.push o)[a]? =_;rw[Array.getElem?_push]
def dc(w:World)(b:Nat)(o:Obj)(c:Nat):(w.putObj b o).heap[c]? =if c=b then(w.heap[b]?).map (λ_=>o)else w.heap[c]? :=by
 unfold World.putObj;simp only;rw[Array.getElem?_setIfInBounds];by_cases h:b=c
 ·subst h;simp only[if_true];by_cases a:b<w.heap.size
  ·simp[a]
  ·simp[a]
 ·rw[if_neg h,if_neg (λe=>h e.symm)]
def mh(w:World)(a:Addr)(v:Value):(w.setCell a v).heap.size=w.heap.size:=by simp[World.setCell]
def cn{w:World}{b:Nat}{o:Obj}(h:w.heap[b]? =some o):b<w.heap.size:=(Array.getElem?_eq_some_iff.1 h).1
def hp(w:World)(b:Nat):Option Obj:=w.heap[b]?
def cO{w:World}{b:Nat}{o:Option Obj}(h:w.heap[b]? =o):hp w b=o:=h
@[go_sem] theorem Qb (w:World) (a:Addr):w.cell? a=match hp w a.block with|some (.cells c _ _)=>if a.spot.isSome then none else c[a.off]? |_=>none:=rfl
@[go_sem] theorem L7 (w:World) (a:Addr):w.frozen? a=match hp w a.block with|some (.cells _ _ (b,c))=>b<=a.off&& a.off<c|_=>false:=rfl
@[go_sem] theorem gX (w:World) (b i:Nat) (v:Value) (a:Nat):hp (w.setCell ⟨b,i,none⟩ v) a=if a=b then wJ (hp w b) i v else hp w a:=mH w b i v a
@[go_sem] theorem Hf (w:World) (o:Obj) (a:Nat):hp (w.alloc o) a=if a=w.heap.size then some o else hp w a:=cY w o a
@[go_sem] theorem CB (w:World) (b:Nat) (o:Obj) (a:Nat):hp (w.putObj b o) a=if a=b then(hp w b).map (λ_=>o)else hp w a:=dc w b o a
@[go_sem] theorem P1 (w:World) (b:Nat):hp w.drew b=hp w b:=rfl
attribute [go_sem] mh World.size_alloc World.putObj_size
@[go_sem] theorem vm (w:World):w.drew.heap.size=w.heap.size:=rfl
def Rg{d n:Nat}(h:d<n):¬d=n/\(∀k,¬d=n+k)/\¬n=d/\∀k,¬n+k=d:=⟨by omega,λk=>by omega,by omega,λk=>by omega⟩
@[go_sem] theorem Qe (n a b:Nat):n+a+b=n+(a+b):=Nat.add_assoc n a b
structure cl(F:Nat->Prop)(w w' :World):Prop where
 size:w.heap.size<=w'.heap.size
 out:w'.output=w.output
 os:w'.os=w.os
 blk:∀b,b<w.heap.size->¬F b->w'.heap[b]? =w.heap[b]?
def cl.refl(F:Nat->Prop)(w:World):cl F w w:=⟨Nat.le_refl _,rfl,rfl,λ_ _ _=>rfl⟩
def cl.trans{F:Nat->Prop}{w w1 d:World}(h:cl F w w1)(a:cl F w1 d):cl F w d:=
 ⟨Nat.le_trans h.size a.size,a.out.trans h.out,a.os.trans h.os,λb e c=>(a.blk b (Nat.lt_of_lt_of_le e h.size) c).trans (h.blk b e c)⟩
def cl.mono{F G:Nat->Prop}{w w' :World}(h:cl F w w')(d:∀b,b<w.heap.size->F b->G b):cl G w w' :=
 ⟨h.size,h.out,h.os,λb a e=>h.blk b a λc=>e (d b a c)⟩
def cl.alloc{F:Nat->Prop}{w w' :World}(h:cl F w w')(o:Obj):cl F w (w'.alloc o):=
 ⟨by rw[World.size_alloc];exact Nat.le_succ_of_le h.size,h.out,h.os,λb c a=>by
  rw[cY,if_neg (by have:=h.size;omega)];exact h.blk b c a⟩
def cl.drew{F:Nat->Prop}{w w' :World}(h:cl F w w'):cl F w w'.drew:=⟨h.size,h.out,h.os,h.blk⟩
def cl.setCell{F:Nat->Prop}{w w' :World}(h:cl F w w'){b:Nat}(a:F b\/w.heap.size<=b)(i:Nat)(v:Value):cl F w (w'.setCell ⟨b,i,none⟩ v):=
 ⟨by rw[mh];exact h.size,h.out,h.os,λf c d=>by
  rw[mH,if_neg (λe=>by subst e;rcases a with a|a;exact d a;omega)];exact h.blk f c d⟩
def cl.putObj{F:Nat->Prop}{w w' :World}(h:cl F w w'){b:Nat}(a:F b\/w.heap.size<=b)(o:Obj):cl F w (w'.putObj b o):=
 ⟨by rw[World.putObj_size];exact h.size,h.out,h.os,λf c d=>by
  rw[dc,if_neg (λe=>by subst e;rcases a with a|a;exact d a;omega)];exact h.blk f c d⟩
def cl.on{F G:Nat->Prop}{w w1 d:World}(h:cl F w w1)(a:cl G w1 d)(g:∀b,G b->F b\/w.heap.size<=b):cl F w d:=
 ⟨Nat.le_trans h.size a.size,a.out.trans h.out,a.os.trans h.os,λb e c=>(a.blk b (Nat.lt_of_lt_of_le e h.size) λf=>(g b f).elim c (by omega)).trans (h.blk b e c)⟩
def cl.keep{F:Nat->Prop}{w w' :World}(h:cl F w w'){b:Nat}{o:Obj}(a:w.heap[b]? =some o)(c:¬F b):w'.heap[b]? =some o:=
 (h.blk b (cn a) c).trans a
end Go.Vc
