/- Part of a proof. -/
import Derived.Test.YtekbnpagidkbbaaGreatT15
set_option linter.all false
set_option maxRecDepth 100000
set_option maxHeartbeats 4000000
namespace Go.Proofs
open Go Go.Vc
def lT(c:Nat)(C:oq):As:=⟨λw F=>mP w c F C,λh hb=>h.lt hb,λh m hg=>h.mod m hg⟩
def jV(l:Nat)(X:bq):As:=⟨λw F=>iw w l F X,λh hb=>h.lt hb,λh m hg=>h.mod m hg⟩
def Cp(b:Nat)(B:Bk):As:=⟨λw F=>gW w b F B,λh hb=>h.lt hb,λh m hg=>h.mod m hg⟩
def nB(v:Nat)(S:ba):As:=⟨λw F=>MO w v F S,λh hb=>h.lt hb,λh m hg=>h.mod m hg⟩
abbrev lX(s:Vt_)(l:List Od):As:=ow s kQ 5 l.length (l.flatMap dp)
structure aj6(p:Int->Prop)(A:List (Int×Nat))(bk:Int->Bk)(w:Wt_)(F:NP_)(fp:Int->Nat->Prop):Prop where
 q:∀n b,p n->lk A n=some b->gW w b (fp n) (bk n)
 dj:∀n m x,p n->p m->fp n x->fp m x->n=m
 f:∀x,F x↔∃n,p n/\(lk A n).isSome=true/\fp n x
def Yb(p:Int->Prop)(A:List (Int×Nat))(bk:Int->Bk):As:=⟨λw F=>∃fp,aj6 p A bk w F fp,λ⟨fp,h⟩ hb=>by
  obtain⟨n,hp,hs,hx⟩:=(h.f _).1 hb;obtain⟨b,e⟩:=ek.1 hs;exact(h.q n b hp e).lt hx,λ⟨fp,h⟩ m hg=>⟨fp,λn b hp e=>(h.q n b hp e).mod m λx hx=>hg x ((h.f x).2 ⟨n,hp,by rw[e];rfl,hx⟩),h.dj,h.f⟩⟩
abbrev qG(A:List (Int×Nat))(bk:Int->Bk):As:=Yb (λ_=>True) A bk
structure ap1(p:Int->Prop)(D:List (Int×Value))(bd:Int->List Od)(w:Wt_)(F:NP_):Prop where
 q:∀n,p n->sZ w (ly D n) (bd n)
 dj:∀n m x,p n->p m->aQ (ly D n) x->aQ (ly D m) x->n=m
 f:∀x,F x↔∃n,p n/\aQ (ly D n) x
def T0(p:Int->Prop)(D:List (Int×Value))(bd:Int->List Od):As:=⟨λw F=>ap1 p D bd w F,λh hb=>by
  obtain⟨n,hp,hx⟩:=(h.f _).1 hb;exact(h.q n hp).lt hx,λh m hg=>⟨λn hp=>(h.q n hp).mod m λx hx=>hg x ((h.f x).2 ⟨n,hp,hx⟩),h.dj,h.f⟩⟩
abbrev tq(D:List (Int×Value))(bd:Int->List Od):As:=T0 (λ_=>True) D bd
structure nQ(A:List (Int×Nat))(D:List (Int×Value))(C:List Ct)(bk:Int->Bk):Prop where
 dom:∀n,(lk A n).isSome=(bU C n).isSome
 dod:∀n,(lk D n).isSome=true->(bU C n).isSome=true
 nbk:∀n,lk A n=none->bk n=Bk.empty
abbrev O9(v c l mb md:Nat)(n:Int):As:=pt v [gk c,eK l,.map (some mb),.map (some md),gQ n] TL
abbrev Ld(mb:Nat)(A:List (Int×Nat)):As:=mp eS fe mb A
abbrev Lm(md:Nat)(D:List (Int×Value)):As:=mp eS AP md D
abbrev vo(v c l mb md:Nat)(A:List (Int×Nat))(D:List (Int×Value))(C:oq)(X:bq)(bk:Int->Bk)(bd:Int->List Od)(n:Int)(L:List As):List As:=
 O9 v c l mb md n::lT c C::jV l X::Ld mb A::Lm md D::qG A bk::tq D bd::L
abbrev vs(v c l mb md:Nat)(A:List (Int×Nat))(D:List (Int×Value))(S:ba)(L:List As):List As:=vo v c l mb md A D S.cal S.led S.bk S.bd S.next L
section
variable{L M:List As}{φ:WP}{A:List (Int×Nat)}{D:List (Int×Value)}{bk:Int->Bk}{bd:Int->List Od}{n:Int}{b v c l mb md:Nat}{B:Bk}{S:ba}{w:Wt_}
def Sm:∀(l:List (As×(Nat->Prop))) {F2:NP_},(∀x∈l,x.1.P w x.2)->l.Pairwise (λx y=>∀b,x.2 b->¬y.2 b)->tR w L F2->(∀x∈l,∀b,x.2 b->¬F2 b)->∃F,tR w (l.map (·.1)++L) F/\∀b,F b↔(∃x∈l,x.2 b)\/F2 b
 | [],F2,_,_,h,_=>⟨F2,h,λb=>by simp⟩
 |x::l,F2,e,i,p,k=>by
  obtain⟨o,q⟩:=bJ.1 i;obtain⟨F,m,f⟩:=Sm l (λy a=>e y (ae _ a)) q p λy a=>k y (ae _ a);refine⟨λb=>x.2 b\/F b,⟨x.2,F,e x ai,m,λb j g=>?_,λ_=>aI⟩,λb=>?_⟩
  ·rcases(f b).1 g with⟨y,a,d⟩|g
   ·exact o y a b j d
   ·grind
  ·show x.2 b\/F b↔_;rw[f];constructor
   ·rintro(h|⟨y,a,h⟩|h)
    ·grind
    ·grind
    ·exact .inr h
   ·rintro(⟨y,a,h⟩|h)
    ·rcases aq.1 a with rfl|a
     ·exact .inl h
     ·grind
    ·exact .inr (.inr h)
def wN(h:∀c l mb md A D,nQ A D S.cal.l S.bk->Gs (vo v c l mb md A D S.cal S.led S.bk S.bd S.next L) φ):Gs (nB v S::L) φ:=⟨λw y=>by
 obtain⟨I,t,⟨c,l,mb,md,A,D,j,g,C⟩,a,E⟩:=Ss.cons.1 y;have r:∀{p:Pt} {b:Nat},j p b->¬t b:=λo=>E _ ((C _).2 ⟨_,o⟩);have f:∀{p q:Pt} {b:Nat},p≠q->j p b->¬j q b:=λs hp z=>s (g.dj _ _ _ hp z);have k:∀{b:Nat},(∃n,True/\(lk A n).isSome=true/\j (.bk n) b)->∃n,j (.bk n) b:=λ⟨n,_,_,h⟩=>⟨n,h⟩
 have i:∀{b:Nat},(∃n,True/\aQ (ly D n) b)->∃n,j (.bd n) b:=λ⟨n,_,h⟩=>⟨n,(g.fbd n _).2 h⟩
 obtain⟨F,G,-⟩:=Sm (w:=w) (L:=L) [(O9 v c l mb md S.next,j .v),(lT c S.cal,j .cal),(jV l S.led,j .led),(Ld mb A,j .mb),(Lm md D,j .md),(qG A S.bk,λb=>∃n,True/\(lk A n).isSome=true/\j (.bk n) b),(tq D S.bd,λb=>∃n,True/\aQ (ly D n) b)] (F2:=t) (by
   simp only[aq,fD,mz];rintro x (rfl|rfl|rfl|rfl|rfl|rfl|rfl)
   ·exact⟨g.blk,g.fv⟩
   ·exact g.cal
   ·exact g.led
   ·exact⟨g.mbk,g.fmb⟩
   ·exact⟨g.mbd,g.fmd⟩
   ·exact⟨λn=>j (.bk n),λn b _ e=>g.bk n b e,λn m x _ _ d a=>by simpa using g.dj _ _ _ d a,λ_=>aI⟩
   ·exact⟨λn _=>g.bd n,λn m x _ _ d a=>by simpa using g.dj _ _ _ ((g.fbd n x).2 d) ((g.fbd m x).2 a),λ_=>aI⟩) (by
   simp only[bJ,aq,fD,mz,forall_eq_or_imp,forall_eq,false_imp_iff,implies_true,List.Pairwise.nil,and_true]
   refine⟨⟨λb=>f (by simp),λb=>f (by simp),λb=>f (by simp),λb=>f (by simp),λb d a=>(k a).elim λ_ h=>f (by simp) d h,λb d a=>(i a).elim λ_ h=>f (by simp) d h⟩,
    ⟨λb=>f (by simp),λb=>f (by simp),λb=>f (by simp),λb d a=>(k a).elim λ_ h=>f (by simp) d h,λb d a=>(i a).elim λ_ h=>f (by simp) d h⟩,
    ⟨λb=>f (by simp),λb=>f (by simp),λb d a=>(k a).elim λ_ h=>f (by simp) d h,λb d a=>(i a).elim λ_ h=>f (by simp) d h⟩,
    ⟨λb=>f (by simp),λb d a=>(k a).elim λ_ h=>f (by simp) d h,λb d a=>(i a).elim λ_ h=>f (by simp) d h⟩,
    ⟨λb d a=>(k a).elim λ_ h=>f (by simp) d h,λb d a=>(i a).elim λ_ h=>f (by simp) d h⟩,
    λb d a=>(k d).elim λ_ h=>(i a).elim λ_ u=>f (by simp) h u⟩) a (by
   simp only[aq,fD,mz];rintro x (rfl|rfl|rfl|rfl|rfl|rfl|rfl) b o
   ·exact r o
   ·exact r o
   ·exact r o
   ·exact r o
   ·exact r o
   ·grind
   ·exact(i o).elim λ_ h=>r h)
 exact(h c l mb md A D ⟨g.dom,g.dod,λn H=>(g.nbk n H).1⟩).go w ⟨F,G⟩⟩
def pM{C:oq}{X:bq}{k:Int}(u:nQ A D C.l bk)(h:Gs (nB v ⟨C,X,bk,bd,k⟩::L) φ):Gs (vo v c l mb md A D C X bk bd k L) φ:=⟨λw y=>by
 obtain⟨F,t,G1,T,⟨r,G2,h2,⟨F3,G3,h3,⟨j,G4,P,⟨F5,Y,N,⟨F6,G6,⟨s,G⟩,⟨f,i,E,h8,V,H⟩,W,g6⟩,d5,g5⟩,d4,g4⟩,d3,g3⟩,d2,g2⟩,d1,g1⟩:=y
 let o:Pt->Nat->Prop:=λp=>match p with
  | .v=>t
  | .cal=>r
  | .led=>F3
  | .mb=>j
  | .md=>F5
  | .bk n=>λx=>(lk A n).isSome=true/\s n x
  | .bd n=>aQ (ly D n)
 have Q:∀{n:Int} {x:Nat},(lk A n).isSome=true/\s n x->F6 x:=λh=>(G.f _).2 ⟨_,trivial,h⟩;have K:∀{n:Int} {x:Nat},aQ (ly D n) x->f x:=λh=>(E.f _).2 ⟨_,trivial,h⟩;have J:∀{x:Nat},F6 x\/f x\/i x->Y x:=λh=>(g6 _).2 (h.imp id (H _).2);have O:∀{x:Nat},F5 x\/F6 x\/f x\/i x->G4 x:=λh=>(g5 _).2 (h.imp id J);have R:∀{x:Nat},j x\/F5 x\/F6 x\/f x\/i x->G3 x:=λh=>(g4 _).2 (h.imp id O);have U:∀{x:Nat},F3 x\/j x\/F5 x\/F6 x\/f x\/i x->G2 x:=λh=>(g3 _).2 (h.imp id R);have e2:∀{x:Nat},r x\/F3 x\/j x\/F5 x\/F6 x\/f x\/i x->G1 x:=λh=>(g2 _).2 (h.imp id U)
 have key:∀p x,o p x->(t x\/r x\/F3 x\/j x\/F5 x\/F6 x\/f x):=λp x d=>by
  cases p with
  |v=>exact .inl d
  |cal=>exact .inr (.inl d)
  |led=>exact .inr (.inr (.inl d))
  |mb=>exact .inr (.inr (.inr (.inl d)))
  |md=>exact .inr (.inr (.inr (.inr (.inl d))))
  |bk n=>exact .inr (.inr (.inr (.inr (.inr (.inl (Q d))))))
  |bd n=>exact .inr (.inr (.inr (.inr (.inr (.inr (K d))))))
 have no:∀x,(t x->¬(r x\/F3 x\/j x\/F5 x\/F6 x\/f x\/i x))/\(r x->¬(F3 x\/j x\/F5 x\/F6 x\/f x\/i x))/\(F3 x->¬(j x\/F5 x\/F6 x\/f x\/i x))/\(j x->¬(F5 x\/F6 x\/f x\/i x))/\(F5 x->¬(F6 x\/f x\/i x))/\(F6 x->¬(f x\/i x))/\(f x->¬i x):=λx=>
  ⟨λh g=>d1 x h (e2 g),λh g=>d2 x h (U g),λh g=>d3 x h (R g),λh g=>d4 x h (O g),λh g=>d5 x h (J g),λh g=>W x h ((H x).2 g),λh g=>V x h g⟩
 let a:Pt->Nat:=λp=>match p with
  | .v=>0| .cal=>1| .led=>2| .mb=>3| .md=>4| .bk _=>5| .bd _=>6
 have at_:∀p x,o p x->(a p=0/\t x)\/(a p=1/\r x)\/(a p=2/\F3 x)\/(a p=3/\j x)\/(a p=4/\F5 x)\/(a p=5/\F6 x)\/(a p=6/\f x):=λp x d=>by
  cases p with
  |v=>exact .inl ⟨rfl,d⟩
  |cal=>exact .inr (.inl ⟨rfl,d⟩)
  |led=>exact .inr (.inr (.inl ⟨rfl,d⟩))
  |mb=>exact .inr (.inr (.inr (.inl ⟨rfl,d⟩)))
  |md=>exact .inr (.inr (.inr (.inr (.inl ⟨rfl,d⟩))))
  |bk n=>exact .inr (.inr (.inr (.inr (.inr (.inl ⟨rfl,Q d⟩)))))
  |bd n=>exact .inr (.inr (.inr (.inr (.inr (.inr ⟨rfl,K d⟩)))))
 have dj:∀p q x,o p x->o q x->p=q:=λp q x hp z=>by
  have hi:a p=a q:=by
   have b:=at_ q x z;grind
  cases p<;>cases q<;>first|rfl|cases hi|skip
  ·rename_i n m
   rw[G.dj n m x trivial trivial hp.2 z.2]
  ·rename_i n m
   rw[E.dj n m x trivial trivial hp z]
 refine h.go w (Ss.cons.2 ⟨λx=>∃p,o p x,i,⟨c,l,mb,md,A,D,o,⟨⟨T.1,h2,h3,P.1,N.1,λn b e=>?_,λn e=>⟨u.nbk n e,λx d=>?_⟩,λn=>E.q n trivial,T.2,P.2,N.2,λn x=>aI,dj⟩,u.dom,u.dod⟩,λ_=>aI⟩,h8,λx ⟨p,d⟩ I=>?_⟩)
 ·have:=G.q n b trivial e
  have e' :(λx=>(lk A n).isSome=true/\s n x)=s n:=by
   funext x;rw[e];simp
  show gW w b (λx=>(lk A n).isSome=true/\s n x) _;rw[e'];exact this
 ·grind
 ·obtain⟨n1,n2,n3,n4,n5,n6,Z⟩:=no x;rcases key p x d with k|k|k|k|k|k|k
  ·grind
  ·grind
  ·grind
  ·grind
  ·grind
  ·exact n6 k (.inr I)
  ·exact Z k I⟩
end
end Go.Proofs
namespace Go.Proofs
open Go Go.Vc
attribute [local congr] bj
section
variable{w:Wt_}{gv:Vt_}{α:Type}{xs:List α}{fv:α->Value}{asg:Value->World->(Value->World->Prop)->Prop}{Pv:α->Value->Nat->World->Prop}{body:Nat->Value->World->(World->Prop)->(Code->World->Prop)->Prop}{after:List Nat->Option Code->World->Prop}{X0:NP_}
def TY(ht:uK gv (xs.map λa=>[fv a]) w)(hasg:∀a∈xs,∀(W:Wt_) (K:Value->World->Prop),(∀O v,Pv a v W.heap.size O->M0 W O->K v O)->asg (fv a) W K)
  (hPv:∀a v q W k H,Pv a v q W->bn H W k->¬H q->Pv a v q k)
  (I:(Nat->Prop)->Nat->World->Prop)(Ex:Code->(Nat->Prop)->World->Prop)
  (D:∀X i W k H,I X i W->bn H W k->(∀b,X b->¬H b)->I X i k)
  (hsx:∀c X W k H,Ex c X W->bn H W k->(∀b,X b->¬H b)->Ex c X k)
  (R:∀b,X0 b->b<w.heap.size)(h0:I X0 0 w)
  (F:∀X i (hi:i<xs.length) W q v,I X i W->bn X0 w W->(∀b,X b->b<q/\(X0 b\/w.heap.size+1<b))->w.heap.size+1<q->q<=W.heap.size->Pv xs[i] v q W->(∃r,hp W (w.heap.size+1)=some (.loop r))->∀KN KJ,
   (∀y k,I y (i+1) k->bn (λb=>X b\/q<=b) W k->(∀b,y b->(X b\/W.heap.size<=b)/\b<k.heap.size)->KN k)->
   (∀c y k,Ex c y k->bn (λb=>X b\/q<=b) W k->(∀b,y b->(X b\/W.heap.size<=b)/\b<k.heap.size)->KJ c k)->body (w.heap.size+1) v W KN KJ)
  (hend:∀X W d,d=w.heap.size->I X xs.length W->bn X0 w W->hp W d=some (.deferred (some []))->(∀b,X b->b<W.heap.size/\(X0 b\/d+1<b))->after [d] none W)
  (hexit:∀c X W d,d=w.heap.size->Ex c X W->bn X0 w W->hp W d=some (.deferred (some []))->(∀b,X b->b<W.heap.size/\(X0 b\/d+1<b))->after [d] (some c) W):
  HD pQ none gv w 1 (λl x W KN KJ=>asg (x.getD 0 undef) W λv O=>qr l O λw3=>body l v w3 KN KJ) after:=by
 obtain⟨⟨Ok,hit,hok⟩,-⟩:=ht;obtain⟨f,first,captured,rfl,hit0⟩:=hit.out;apply rG.2;show∀m:Loop,_;intro m s M hD hY;obtain⟨d,z⟩:=dW w.heap.size;rw[<-z]at F;have Y:(w.alloc (.deferred (some []))).heap.size=d+1:=by rw[ci,z]
 obtain⟨wr,G⟩:=dW ((w.alloc (.deferred (some []))).alloc (.loop m));have V:wr.heap[d+1]? =some (.loop m):=by rw[G,dZ,ab Y.symm]
 have hszr:wr.heap.size=d+2:=by rw[G,ci,Y]
 have Z:hp wr d=some (.deferred (some [])):=by rw[G];simp[go_sem,z]
 have hmr:M0 w wr:=by rw[G];exact nl.alloc _
 have p:∀(W:Wt_) (o:Obj),bn (λb=>b=d+1) W (W.putObj (d+1) o):=λW o=>(bn.refl (λb=>b=d+1) W).putObj (b:=d+1) (.inl rfl) o;rw[Y]at hY|-;rw[<-G];let J:(Nat->Prop)->Nat->World->Prop:=λQ i W=>∃X,I X i W/\bn X0 w W/\hp W d=some (.deferred (some []))/\(∀b,X b->b<W.heap.size/\(X0 b\/d+1<b)/\¬Q b)/\W.heap[d+1]? =some (.loop m)/\∀b,Q b->d+1<b/\b<W.heap.size;let Js:(Nat->Prop)->World->Prop:=λQ W=>∃c X r,Ex c X W/\bn X0 w W/\hp W d=some (.deferred (some []))/\(∀b,X b->b<W.heap.size/\(X0 b\/d+1<b)/\¬Q b)/\W.heap[d+1]? =some (.loop r)/\(∀b,Q b->d+1<b/\b<W.heap.size)/\r.state=.done/\r.pending=some c;refine hit0 _ J Js _ _ (hok _ hmr) ?_ ?_ ?_ ?_ ?_ ?_
 ·intro Q W1 j hQ;refine⟨X0,D _ _ _ _ _ h0 (hmr.trans j) eI,(hmr.trans j).to,j.hpk Z id,λb g=>?_,j.keep V id,λb g=>?_⟩
  ·have T:=R b g;have L:=j.size;exact⟨qZ,.inl g,λhq=>by grind⟩
  ·have:=hQ b g;omega
 ·rintro Q Q' i W k ⟨X,T,L,P,n,B,U⟩ j N;have hl:=aJ B;refine⟨X,D _ _ _ _ _ T j λb g=>(n b g).2.2,L.on j λb g=>.inr (by grind),j.hpk P λg=>by grind,λb g=>?_,j.keep B λg=>by grind,λb g=>?_⟩
  ·have u:=n b g;refine⟨br u.1 j.size,u.2.1,λhq=>?_⟩;rcases(N b hq).1 with h|h
   ·exact u.2.2 h
   ·have:=u.1;omega
  ·have u:=N b g;refine⟨?_,u.2⟩;rcases u.1 with h|h
   ·exact(U b h).1
   ·omega
 ·rintro Q Q' W k ⟨c,X,r,T,L,P,n,B,U,h7⟩ j N;have hl:=aJ B;refine⟨c,X,r,hsx _ _ _ _ _ T j λb g=>(n b g).2.2,L.on j λb g=>.inr (by grind),j.hpk P λg=>by grind,λb g=>?_,j.keep B λg=>by grind,λb g=>?_,h7⟩
  ·have u:=n b g;refine⟨br u.1 j.size,u.2.1,λhq=>?_⟩;rcases(N b hq).1 with h|h
   ·exact u.2.2 h
   ·have:=u.1;omega
  ·have u:=N b g;refine⟨?_,u.2⟩;rcases u.1 with h|h
   ·exact(U b h).1
   ·omega
 ·rintro Q i x W C ⟨X,T,L,P,n,B,U⟩ K' hT hF;apply jf.2;show Yl pQ (d+1) ⟨_⟩ W K';have e1:(#[]:Array Value).toList++x=x:=rfl;rw[e1]
  obtain⟨hi,rfl⟩:∃hi:i<xs.length,x=[fv xs[i]]:=by
   rw[bY]at C;cases hh:xs[i]? with
   |none=>rw[hh]at C;cases C
   |some o=>
    obtain⟨hj,he⟩:=aF.1 hh;rw[hh]at C;exact⟨hj,by grind⟩
  apply hY _ W K' rfl ⟨m.state,m.pending,B⟩;obtain⟨q,hq0⟩:=dW W.heap.size;refine hasg xs[i] (ar hi) W _ λO v v3 v4=>?_;rw[<-hq0]at v3;have r2:O.heap[d+1]? =some (.loop m):=v4.keep B id;apply pu r2 s;have m3:=p O (.loop {m with state:=.busy});have r3:(O.putObj (d+1) (.loop {m with state:=.busy})).heap[d+1]? =some (.loop {m with state:=.busy}):=by rw[dJ,ab rfl,r2];rfl
  generalize O.putObj (d+1) (.loop {m with state:=.busy})=w3 at m3 r3|-;have hdl:d+1<q:=by grind
  have q3:=hPv _ _ _ _ _ _ v3 m3 qZ;have hw3:=m3.size;have hw4:=v4.size;have M3:bn (λb=>b=d+1) W w3:=(v4.to).trans m3;have hXq:∀b,X b->b<q/\(X0 b\/d+1<b):=λb g=>⟨by grind,(n b g).2.1⟩
  have t:∀b,X b->b≠d+1/\b≠d:=λb g=>by
   rcases(n b g).2.1 with h|h
   ·have:=R b h;omega
   ·omega
  have E:∀(k:Wt_) (y:NP_) (o:Obj),bn (λb=>X b\/q<=b) w3 k->(∀b,y b->(X b\/w3.heap.size<=b)/\b<k.heap.size)->
    bn X0 w (k.putObj (d+1) o)/\hp (k.putObj (d+1) o) d=some (.deferred (some []))/\(∀b,y b->b<(k.putObj (d+1) o).heap.size/\(X0 b\/d+1<b)/\¬Q b)/\(∀b,Q b->d+1<b/\b<(k.putObj (d+1) o).heap.size)/\
    (∀b,Q b->(k.putObj (d+1) o).heap[b]? =W.heap[b]?)/\W.heap.size<=(k.putObj (d+1) o).heap.size/\k.heap[d+1]? =some (.loop {m with state:=.busy}):=by
   intro k y o j A;have S:=p k o;have hsW:=j.size;have hsP:=S.size;refine⟨?_,S.hpk (j.hpk (m3.hpk (v4.hpk P id) qZ) λg=>g.elim (λg=>(t _ g).2 rfl) λg=>qZ) qZ,λb g=>?_,λb g=>?_,λb g=>?_,qZ,j.keep r3 λg=>g.elim (λg=>(t _ g).1 rfl) λg=>qZ⟩
   ·refine(((L.on M3 λb g=>gT).on j λb g=>?_)).on S λb g=>gT;rcases g with g|g
    ·rcases(n b g).2.1 with h|h
     ·exact .inl h
     ·exact gT
    ·exact gT
   ·have u:=A b g;refine⟨qZ,?_,λhq=>?_⟩
    ·rcases u.1 with h|h
     ·exact(n b h).2.1
     ·exact gT
    ·rcases u.1 with h|h
     ·exact(n b h).2.2 hq
     ·grind
   ·have:=U b g;omega
   ·have hb' :=U b g;rw[S.blk b qZ qZ,j.blk b qZ λC=>C.elim (λC=>(n b C).2.2 g) λC=>qZ,M3.blk b hb'.2 qZ]
  refine F X i hi w3 q v (D _ _ _ _ _ T M3 λb g=>(t b g).1) (L.on M3 λb g=>gT) hXq qZ qZ q3 ⟨_,r3⟩ _ _ ?_ ?_
  ·intro y k hI' j A;obtain⟨k1,k2,k3,k4,k5,k6,k7⟩:=E k y (.loop {{m with state:=.busy}with state:=.ready,pending:=none}) j A;refine⟨_,k7,hT _ ⟨y,?_,k1,k2,k3,?_,k4⟩ k6 k5⟩
   ·refine D _ _ _ _ _ hI' (p k _) λb g e=>?_;rcases(A b g).1 with h|h
    ·exact(t b h).1 e
    ·omega
   ·rw[dJ,ab rfl,k7];simp[<-s,<-M]
  ·intro c y k hI' j A;obtain⟨k1,k2,k3,k4,k5,k6,k7⟩:=E k y (.loop {{m with state:=.busy}with state:=.done,pending:=some c}) j A;refine⟨_,k7,hF _ ⟨c,y,{m with state:=.done,pending:=some c},?_,k1,k2,k3,?_,k4,rfl,rfl⟩ k6 k5⟩
   ·refine hsx _ _ _ _ _ hI' (p k _) λb g e=>?_;rcases(A b g).1 with h|h
    ·exact(t b h).1 e
    ·omega
   ·rw[dJ,ab rfl,k7];rfl
 ·rintro Q W ⟨X,T,L,P,n,B,U⟩;refine⟨m,B,by rw[s];decide,?_⟩;rw[<-z];have j:=p W (.loop {m with state:=.exhausted});generalize W.putObj (d+1) (.loop {m with state:=.exhausted})=W8 at j|-;rw[M]
  have t:∀b,X b->b≠d+1:=λb g=>by
   rcases(n b g).2.1 with h|h
   ·have:=R b h;omega
   ·omega
  refine hend X _ d z ?_ (L.on j λb g=>gT) (j.hpk P qZ) λb g=>⟨br (n b g).1 j.size,(n b g).2.1⟩
  have C:I X xs.length W:=by grind
  exact D _ _ _ _ _ C j λb g=>t b g
 ·rintro Q W ⟨c,X,r,T,L,P,n,B,U,h7,h8⟩;refine⟨r,B,by rw[h7];decide,?_⟩;rw[<-z];have j:=p W (.loop {r with state:=.exhausted});generalize W.putObj (d+1) (.loop {r with state:=.exhausted})=W8 at j|-;rw[h8]
  have t:∀b,X b->b≠d+1:=λb g=>by
   rcases(n b g).2.1 with h|h
   ·have:=R b h;omega
   ·omega
  exact hexit c X _ d z (hsx _ _ _ _ _ T j λb g=>t b g) (L.on j λb g=>gT) (j.hpk P qZ) λb g=>⟨br (n b g).1 j.size,(n b g).2.1⟩
def WE{l0:Nat}(hl0:∃r,hp w l0=some (.loop r))(ht:uK gv (xs.map λa=>[fv a]) w)(hasg:∀a∈xs,∀(W:Wt_) (K:Value->World->Prop),(∀M v,Pv a v W.heap.size M->M0 W M->K v M)->asg (fv a) W K)
  (hPv:∀a v q W j H,Pv a v q W->bn H W j->¬H q->Pv a v q j)
  (I:(Nat->Prop)->Nat->World->Prop)(Ex:Code->(Nat->Prop)->World->Prop)
  (B:∀X i W j H,I X i W->bn H W j->(∀b,X b->¬H b)->I X i j)
  (hsx:∀c X W j H,Ex c X W->bn H W j->(∀b,X b->¬H b)->Ex c X j)
  (P:∀b,X0 b->b<w.heap.size)(h0:I X0 0 w)
  (D:∀X i (hi:i<xs.length) W q v,I X i W->bn X0 w W->(∀b,X b->b<q/\(X0 b\/w.heap.size<b))->w.heap.size<q->q<=W.heap.size->Pv xs[i] v q W->∀KN KJ,
   (∀y j,I y (i+1) j->bn X W j->(∀b,y b->(X b\/W.heap.size<=b)/\b<j.heap.size)->KN j)->
   (∀c y j,Ex c y j->bn X W j->(∀b,y b->(X b\/W.heap.size<=b)/\b<j.heap.size)->KJ c j)->body w.heap.size v W KN KJ)
  (T:∀X W,I X xs.length W->bn X0 w W->(∀b,X b->b<W.heap.size/\(X0 b\/w.heap.size<b))->after [] none W)
  (G:∀c X W,Ex c X W->bn X0 w W->(∀b,X b->b<W.heap.size/\(X0 b\/w.heap.size<b))->after [] (some c) W):
  HD pQ (some l0) gv w 1 (λl x W KN KJ=>asg (x.getD 0 undef) W λv M=>qr l M λw3=>body l v w3 KN KJ) after:=by
 obtain⟨⟨Ok,hit,hok⟩,-⟩:=ht;obtain⟨f,first,captured,rfl,hit0⟩:=hit.out;apply rG.2;obtain⟨r0,hr0⟩:=hl0;refine⟨r0,hr0,?_⟩;show∀k:Loop,_;intro k s F hD hY;obtain⟨d,O⟩:=dW w.heap.size;rw[<-O]at D;obtain⟨wr,N⟩:=dW (w.alloc (.loop k));have V:wr.heap[d]? =some (.loop k):=by rw[N,dZ,ab O]
 have hszr:wr.heap.size=d+1:=by rw[N,ci,<-O]
 have hmr:M0 w wr:=by rw[N];exact(bn.refl _ w).alloc _
 have p:∀(W:Wt_) (o:Obj),bn (λb=>b=d) W (W.putObj d o):=λW o=>(bn.refl (λb=>b=d) W).putObj (b:=d) (.inl rfl) o;rw[<-O]at hY T G|-;rw[<-N];let J:(Nat->Prop)->Nat->World->Prop:=λQ i W=>∃X,I X i W/\bn X0 w W/\(∀b,X b->b<W.heap.size/\(X0 b\/d<b)/\¬Q b)/\W.heap[d]? =some (.loop k)/\∀b,Q b->d<b/\b<W.heap.size;let Js:(Nat->Prop)->World->Prop:=λQ W=>∃c X r,Ex c X W/\bn X0 w W/\(∀b,X b->b<W.heap.size/\(X0 b\/d<b)/\¬Q b)/\W.heap[d]? =some (.loop r)/\(∀b,Q b->d<b/\b<W.heap.size)/\r.state=.done/\r.pending=some c;refine hit0 _ J Js _ _ (hok _ hmr) ?_ ?_ ?_ ?_ ?_ ?_
 ·intro Q W1 m hQ;refine⟨X0,B _ _ _ _ _ h0 (hmr.trans m) eI,(hmr.trans m).to,λb g=>?_,m.keep V id,λb g=>?_⟩
  ·have R:=P b g;have E:=m.size;exact⟨qZ,.inl g,λhq=>by grind⟩
  ·have:=hQ b g;omega
 ·rintro Q Q' i W j ⟨X,R,E,n,A,U⟩ m L;have hl:=aJ A;refine⟨X,B _ _ _ _ _ R m λb g=>(n b g).2.2,E.on m λb g=>.inr (by grind),λb g=>?_,m.keep A λg=>by grind,λb g=>?_⟩
  ·have t:=n b g;refine⟨br t.1 m.size,t.2.1,λhq=>?_⟩;rcases(L b hq).1 with h|h
   ·exact t.2.2 h
   ·have:=t.1;omega
  ·have t:=L b g;refine⟨?_,t.2⟩;rcases t.1 with h|h
   ·exact(U b h).1
   ·omega
 ·rintro Q Q' W j ⟨c,X,r,R,E,n,A,U,h7⟩ m L;have hl:=aJ A;refine⟨c,X,r,hsx _ _ _ _ _ R m λb g=>(n b g).2.2,E.on m λb g=>.inr (by grind),λb g=>?_,m.keep A λg=>by grind,λb g=>?_,h7⟩
  ·have t:=n b g;refine⟨br t.1 m.size,t.2.1,λhq=>?_⟩;rcases(L b hq).1 with h|h
   ·exact t.2.2 h
   ·have:=t.1;omega
  ·have t:=L b g;refine⟨?_,t.2⟩;rcases t.1 with h|h
   ·exact(U b h).1
   ·omega
 ·rintro Q i x W S ⟨X,R,E,n,A,U⟩ K' hT hF;apply jf.2;show Yl pQ (d) ⟨_⟩ W K';have e1:(#[]:Array Value).toList++x=x:=rfl;rw[e1]
  obtain⟨hi,rfl⟩:∃hi:i<xs.length,x=[fv xs[i]]:=by
   rw[bY]at S;cases hh:xs[i]? with
   |none=>rw[hh]at S;cases S
   |some o=>
    obtain⟨hj,he⟩:=aF.1 hh;rw[hh]at S;exact⟨hj,by grind⟩
  apply hY _ W K' rfl ⟨k.state,k.pending,A⟩;obtain⟨q,hq0⟩:=dW W.heap.size;refine hasg xs[i] (ar hi) W _ λM v v3 v4=>?_;rw[<-hq0]at v3;have r2:M.heap[d]? =some (.loop k):=v4.keep A id;apply pu r2 s;have m3:=p M (.loop {k with state:=.busy});have r3:(M.putObj (d) (.loop {k with state:=.busy})).heap[d]? =some (.loop {k with state:=.busy}):=by rw[dJ,ab rfl,r2];rfl
  generalize M.putObj (d) (.loop {k with state:=.busy})=w3 at m3 r3|-;have hdl:d<q:=by grind
  have q3:=hPv _ _ _ _ _ _ v3 m3 qZ;have hw3:=m3.size;have hw4:=v4.size;have M3:bn (λb=>b=d) W w3:=(v4.to).trans m3;have hXq:∀b,X b->b<q/\(X0 b\/d<b):=λb g=>⟨by grind,(n b g).2.1⟩
  have u:∀b,X b->b≠d/\b≠d:=λb g=>by
   rcases(n b g).2.1 with h|h
   ·have:=P b h;omega
   ·omega
  have C:∀(j:Wt_) (y:NP_) (o:Obj),bn X w3 j->(∀b,y b->(X b\/w3.heap.size<=b)/\b<j.heap.size)->
    bn X0 w (j.putObj (d) o)/\(∀b,y b->b<(j.putObj (d) o).heap.size/\(X0 b\/d<b)/\¬Q b)/\(∀b,Q b->d<b/\b<(j.putObj (d) o).heap.size)/\
    (∀b,Q b->(j.putObj (d) o).heap[b]? =W.heap[b]?)/\W.heap.size<=(j.putObj (d) o).heap.size/\j.heap[d]? =some (.loop {k with state:=.busy}):=by
   intro j y o m z;have Z:=p j o;have hsW:=m.size;have hsP:=Z.size;refine⟨?_,λb g=>?_,λb g=>?_,λb g=>?_,qZ,m.keep r3 λg=>(u _ g).1 rfl⟩
   ·refine(((E.on M3 λb g=>gT).on m λb g=>?_)).on Z λb g=>gT;rcases(n b g).2.1 with h|h
    ·exact .inl h
    ·exact gT
   ·have t:=z b g;refine⟨qZ,?_,λhq=>?_⟩
    ·rcases t.1 with h|h
     ·exact(n b h).2.1
     ·exact gT
    ·rcases t.1 with h|h
     ·exact(n b h).2.2 hq
     ·grind
   ·have:=U b g;omega
   ·have hb' :=U b g;rw[Z.blk b qZ qZ,m.blk b qZ λS=>(n b S).2.2 g,M3.blk b hb'.2 qZ]
  refine D X i hi w3 q v (B _ _ _ _ _ R M3 λb g=>(u b g).1) (E.on M3 λb g=>gT) hXq qZ qZ q3 _ _ ?_ ?_
  ·intro y j Y m z;obtain⟨k1,k3,k4,k5,k6,k7⟩:=C j y (.loop {{k with state:=.busy}with state:=.ready,pending:=none}) m z;refine⟨_,k7,hT _ ⟨y,?_,k1,k3,?_,k4⟩ k6 k5⟩
   ·refine B _ _ _ _ _ Y (p j _) λb g e=>?_;rcases(z b g).1 with h|h
    ·exact(u b h).1 e
    ·omega
   ·rw[dJ,ab rfl,k7];simp[<-s,<-F]
  ·intro c y j Y m z;obtain⟨k1,k3,k4,k5,k6,k7⟩:=C j y (.loop {{k with state:=.busy}with state:=.done,pending:=some c}) m z;refine⟨_,k7,hF _ ⟨c,y,{k with state:=.done,pending:=some c},?_,k1,k3,?_,k4,rfl,rfl⟩ k6 k5⟩
   ·refine hsx _ _ _ _ _ Y (p j _) λb g e=>?_;rcases(z b g).1 with h|h
    ·exact(u b h).1 e
    ·omega
   ·rw[dJ,ab rfl,k7];rfl
 ·rintro Q W ⟨X,R,E,n,A,U⟩;refine⟨k,A,by rw[s];decide,?_⟩;have m:=p W (.loop {k with state:=.exhausted});generalize W.putObj (d) (.loop {k with state:=.exhausted})=W8 at m|-;rw[F]
  have u:∀b,X b->b≠d:=λb g=>by
   rcases(n b g).2.1 with h|h
   ·have:=P b h;omega
   ·omega
  refine T X _ ?_ (E.on m λb g=>gT) λb g=>⟨br (n b g).1 m.size,(n b g).2.1⟩
  have S:I X xs.length W:=by grind
  exact B _ _ _ _ _ S m λb g=>u b g
 ·rintro Q W ⟨c,X,r,R,E,n,A,U,h7,h8⟩;refine⟨r,A,by rw[h7];decide,?_⟩;have m:=p W (.loop {r with state:=.exhausted});generalize W.putObj (d) (.loop {r with state:=.exhausted})=W8 at m|-;rw[h8]
  have u:∀b,X b->b≠d:=λb g=>by
   rcases(n b g).2.1 with h|h
   ·have:=P b h;omega
   ·omega
  exact G c X _ (hsx _ _ _ _ _ R m λb g=>u b g) (E.on m λb g=>gT) λb g=>⟨br (n b g).1 m.size,(n b g).2.1⟩
end
end Go.Proofs
namespace Go.Proofs
open Go Go.Vc
variable {B:Bk}{n:Int}{l a:List Od}{o o' :Od}{S:bq}
def Gs.ak{L:List As}{N R:WP}{X:Nat->WP}(h:Gs L N):Gs L (lP N R X none):=⟨λw x=>h.go w x⟩
def Gs.akr{L:List As}{N R:WP}{X:Nat->WP}(h:Gs L R):Gs L (lP N R X (some .ret)):=⟨λw x=>h.go w x⟩
structure Gg(gv:Vt_)(xs:List (List Value))(L:List As)(φ:WP):Prop where
 go:∀w,Ss w L->uK gv xs w->φ w
def HA(d:Nat):As:=⟨λw F=>hp w d=some (.deferred (some []))/\∀x,F x↔x=d,λh hb=>by rw[(h.2 _).1 hb];exact aJ h.1,λh m hg=>⟨m.keep h.1 (hg d ((h.2 d).2 rfl)),h.2⟩⟩
def pJ(d:Nat)(r:Loop):As:=⟨λw F=>hp w d=some (.loop r)/\∀x,F x↔x=d,λh hb=>by rw[(h.2 _).1 hb];exact aJ h.1,λh m hg=>⟨m.keep h.1 (hg d ((h.2 d).2 rfl)),h.2⟩⟩
section
variable{L L0 M:List As}{w:Wt_}{k0:WP}
def Gs.tw{d:Nat}(h:Gs L k0)(p:bL L0 (HA d::L):=by exact gy):Gs L0 (Tw [d] k0):=⟨λw ⟨F,x⟩=>by
 obtain⟨j,c,a,f,g,k⟩:=(p.out w F).1 x;refine⟨a.1,h.go _ ⟨c,f.md ((bn.refl (λy=>y=d) w).putObj (b:=d) (.inl rfl) _) λb i e=>g b ((a.2 b).2 e) i⟩⟩⟩
def Gs.twc{d:Nat}{ds:List Nat}(h:Gs L (Tw ds k0))(p:bL L0 (HA d::L):=by exact gy):Gs L0 (Tw (d::ds) k0):=⟨λw ⟨F,x⟩=>by
 obtain⟨j,c,a,f,g,k⟩:=(p.out w F).1 x;exact⟨a.1,h.go _ ⟨c,f.md ((bn.refl (λy=>y=d) w).putObj (b:=d) (.inl rfl) _) λb i e=>g b ((a.2 b).2 e) i⟩⟩⟩
def qA:∀{L M:List As} {F:NP_},tR w (L++M) F->∃c d,tR w L c/\tR w M d/\(∀b,c b->¬d b)/\∀b,F b↔c b\/d b
 | [],M,F,h=>⟨λ_=>False,F,λ_ h=>h,h,λ_ h=>h.elim,λb=>⟨.inr,λh=>h.elim False.elim id⟩⟩
 |A::L,M,F,⟨c,d,j,f,k,i⟩=>by
  obtain⟨F3,g,k1,k2,k3,k4⟩:=qA f;refine⟨λb=>c b\/F3 b,g,⟨c,F3,j,k1,λb a e=>k b a ((k4 b).2 (.inl e)),λ_=>aI⟩,k2,λb a e=>?_,λb=>?_⟩
  ·rcases a with a|a
   ·grind
   ·exact k3 b a e
  ·rw[i,k4,or_assoc]
def tp:∀{L M:List As} {a F2:NP_},tR w L a->tR w M F2->(∀b,a b->¬F2 b)->∃F,tR w (L++M) F/\∀b,F b↔a b\/F2 b
 | [],M,a,F2,i,d,_=>⟨F2,d,λb=>⟨.inr,λh=>h.elim (λh=>(i b h).elim) id⟩⟩
 |A::L,M,a,F2,⟨F3,k,k1,k2,k3,k4⟩,d,j=>by
  obtain⟨F,g,f⟩:=tp k2 d λb e=>j b ((k4 b).2 (.inr e));refine⟨_,⟨F3,F,k1,g,λb e c=>?_,λ_=>aI⟩,λb=>?_⟩
  ·rcases(f b).1 c with c|c
   ·exact k3 b e c
   ·grind
  ·rw[f,k4,or_assoc]
def LI{A:List As}{W d:Wt_}{X:NP_}{l q:Nat}{r:Loop}{cs:LV_}{T:TypeId}(hl:hp W l=some (.loop r))(h:Ss d (pt q cs T::(A++pJ l r::uu W (λy=>X y\/y=l\/y=q)::[]))):
  ∃o,tR d A o/\bn (λy=>X y\/y=q) W d/\hp d q=some (.cells cs.toArray T (0,0))/\∀b,o b->(X b\/W.heap.size<=b)/\b<d.heap.size:=by
 obtain⟨F,K,FR,⟨H,I⟩,x,z,O⟩:=h;obtain⟨C,u,p,⟨F3,J,⟨D,k⟩,⟨F5,F6,⟨v,m⟩,G,N,B⟩,P,i⟩,f,j⟩:=qA x
 have s:∀b,u b↔b=l\/(b<W.heap.size/\¬(X b\/b=l\/b=q)):=λb=>by
  rw[i,k,B,v];constructor
  ·rintro(h|h|h)
   ·exact .inl h
   ·exact .inr h
   ·exact absurd h (G b)
  ·rintro(h|h)
   ·exact .inl h
   ·exact .inr (.inl h)
 refine⟨C,p,⟨m.size,m.out,m.os,λb c n=>?_⟩,H,λb c=>⟨aS λt=>?_,p.lt c⟩⟩
 ·by_cases a:b=l
  ·subst a;exact D.trans hl.symm
  ·exact m.blk b c λE=>E.elim (λh=>n (.inl h)) λh=>h.elim a λh=>n (.inr h)
 ·have a:b≠l:=λe=>f b c ((s b).2 (.inl e));have g:b≠q:=λe=>z b ((I b).2 e) ((j b).2 (.inl c));refine f b c ((s b).2 (.inr ⟨aS λn=>t (.inr qZ),?_⟩));rintro(h|h|h)
  ·exact t (.inl h)
  ·exact a h
  ·exact g h
def Xf{A:List As}{W:Wt_}{X:NP_}{l q:Nat}{r:Loop}{cs:LV_}{T:TypeId}(hl:hp W l=some (.loop r))(f:hp W q=some (.cells cs.toArray T (0,0)))(h:tR W A X)(g:¬X l)(d:¬X q)(i:q≠l):
  Ss W (pt q cs T::(A++pJ l r::uu W (λy=>X y\/y=l\/y=q)::[])):=by
 have s:tR W (pJ l r::uu W (λy=>X y\/y=l\/y=q)::[]) (λb=>b=l\/(b<W.heap.size/\¬(X b\/b=l\/b=q))):=
  ⟨λb=>b=l,_,⟨hl,λ_=>aI⟩,⟨_,λ_=>False,⟨λ_=>aI,bn.refl _ _⟩,λ_ h=>h,eI,λb=>(or_iff_left id).symm⟩,λb c a=>a.2 (.inr (.inl c)),λ_=>aI⟩
 obtain⟨F,k1,k2⟩:=tp h s λb c a=>a.elim (λe=>g (e▸c)) λa=>a.2 (.inl c);refine Ss.cons.2 ⟨λy=>y=q,F,⟨f,λ_=>aI⟩,k1,λb c a=>?_⟩;subst c;rcases(k2 b).1 a with h|h|h
 ·exact d h
 ·exact i h
 ·grind
end
section
variable{gv:Vt_}{α β γ:Type}{xs:List α}{fv:α->Value}{fc:α->List Value}{T:TypeId}{L L0:List As}{rnd:Nat->List Value->WP->(Code->WP)->WP}{asg:Value->(Value->WP)->WP}{body:Nat->Value->WP->(Code->WP)->WP}{after:List Nat->Option Code->WP}
def Asg(T:TypeId)(fv:α->Value)(fc:α->List Value)(xs:List α)(asg:Value->(Value->WP)->WP):Prop:=
 ∀a∈xs,∀(W:Wt_) (k:Value->WP),(∀w2,hp w2 W.heap.size=some (.cells (fc a).toArray T (0,0))->M0 W w2->k (cU W.heap.size 0) w2)->asg (fv a) k W
def Gg.rf(hR:∀l x j f,rnd l x j f=asg (x.getD 0 undef) λv=>Gw l (body l v j f))(R:Asg T fv fc xs asg)
  (I:Nat->β->List As->List As)(E:γ->List As->List As)(Y:∀i b M,I i b M=I i b []++M)(hE:∀g M,E g M=E g []++M)(p:Nat->β->Prop)(pe:Code->γ->Prop)(b0:β)(h0:p 0 b0)
  (u:∀i (hi:i<xs.length) b,p i b->∀l r q M j f,(∀U cs,p (i+1) U->Gs (pt q cs T::I (i+1) U (pJ l r::M)) j)->(∀c g cs,pe c g->Gs (pt q cs T::E g (pJ l r::M)) (f c))->Gs (pt q (fc xs[i]) T::I i b (pJ l r::M)) (body l (cU q 0) j f))
  (O:∀b d,p xs.length b->Gs (HA d::I xs.length b L) (after [d] none))(C:∀c g d,pe c g->Gs (HA d::E g L) (after [d] (some c)))
  (hp_:bL L0 (I 0 b0 L):=by exact kz):Gg gv (xs.map λa=>[fv a]) L0 (Rw pQ none gv 1 rnd after):=⟨λw y ht=>by
 obtain⟨F,z⟩:=y;have z:=(hp_.out w F).1 z;rw[Y]at z;obtain⟨V,FL,s1,s2,s3,s4⟩:=qA z;show HD pQ none gv w 1 _ after
 have e:(λl x w j f=>rnd l x j f w)=(λ(l:Nat) (x:LV_) (W:Wt_) (KN:World->Prop) (KJ:Code->World->Prop)=>(λ(x:Vt_) (W:Wt_) (K:Value->World->Prop)=>asg x K W) (x.getD 0 undef) W λv w2=>qr l w2 λw3=>(λl v W j f=>body l v j f W) l v w3 KN KJ):=by
  funext l x w j f;rw[hR];rfl
 rw[e]
 have t:∀{A:List As} {X:NP_} {W:Wt_} {d:Nat},tR W A X->bn V w W->hp W d=some (.deferred (some []))->(∀b,X b->b<W.heap.size/\(V b\/d+1<b))->d=w.heap.size->Ss W (HA d::(A++L)):=λ{A X W d} h m P o hdd=>by
  have k2:=s2.md m λb n D=>s3 b D n
  obtain⟨F',k3,k4⟩:=tp h k2 λb n D=>by
   rcases(o b n).2 with s|s
   ·exact s3 b s D
   ·have:=s2.lt D;omega
  refine Ss.cons.2 ⟨λy=>y=d,F',⟨P,λ_=>aI⟩,k3,λb n D=>?_⟩;subst n;rcases(k4 b).1 D with s|s
  ·rcases(o b s).2 with G|G
   ·have:=s1.lt G;omega
   ·omega
  ·have:=s2.lt s;omega
 refine TY (asg:=λ(x:Vt_) (W:Wt_) (K:Value->World->Prop)=>asg x K W) (body:=λl v W j f=>body l v j f W) (Pv:=λa v q W=>v=.pointer (some ⟨q,0,none⟩)/\hp W q=some (.cells (fc a).toArray T (0,0))) ht (λa ha W K hK=>R a ha W K λw2 Q N=>hK w2 _ ⟨rfl,Q⟩ N) (λa v q W k H h m S=>⟨h.1,m.keep h.2 S⟩)
  (λX i W=>∃b,p i b/\tR W (I i b []) X) (λc X W=>∃g,pe c g/\tR W (E g []) X) (λX i W k H ⟨b,Q,N⟩ m S=>⟨b,Q,N.md m S⟩) (λc X W k H ⟨g,Q,N⟩ m S=>⟨g,Q,N.md m S⟩) (X0:=V) (λb n=>s1.lt n) ⟨b0,h0,s1⟩ ?_ ?_ ?_
 ·rintro X i hi W q v ⟨b,n,J⟩ m o hq1 hq2 ⟨rfl,hq⟩ ⟨r,Z⟩ KN KJ hKN hKJ;obtain⟨l,hl⟩:=dW (w.heap.size+1);rw[<-hl]at o hq1 Z|-;have hqX:¬X q:=λh=>by have:=(o q h).1;omega
  have hlX:¬X l:=λh=>by
   rcases(o l h).2 with s|s
   ·have:=s1.lt s;omega
   ·omega
  have hu:∀(B:NP_) (k:Wt_),bn (λy=>X y\/y=q) W k->bn (λb=>X b\/q<=b) W k:=λB k m=>m.mono λb _ h=>h.imp id λe=>by omega
  refine(u i hi b n l r q [uu W (λy=>X y\/y=l\/y=q)] KN KJ (λU cs hb' =>⟨λk h=>?_⟩) λc g cs hg=>⟨λk h=>?_⟩).go W ?_
  ·rw[Y]at h;obtain⟨B,k1,k2,k3,k4⟩:=LI Z h;exact hKN B k ⟨U,hb',k1⟩ (hu B k k2) k4
  ·rw[hE]at h;obtain⟨B,k1,k2,k3,k4⟩:=LI Z h;exact hKJ c B k ⟨g,hg,k1⟩ (hu B k k2) k4
  ·rw[Y];exact Xf Z hq J hlX hqX qZ
 ·rintro X W d rfl ⟨b,n,J⟩ m P o;have:=(O b w.heap.size n).go W;rw[Y]at this;exact this (t J m P o rfl)
 ·rintro c X W d rfl ⟨g,hg,J⟩ m P o;have:=(C c g w.heap.size hg).go W;rw[hE]at this;exact this (t J m P o rfl)⟩
def HM{A:List As}{W d:Wt_}{X:NP_}{q:Nat}{cs:LV_}{T:TypeId}(i:hp W q=some (.cells cs.toArray T (0,0)))(h:Ss d (pt q cs T::(A++uu W (λy=>X y\/y=q)::[]))):
  ∃e,tR d A e/\bn X W d/\∀b,e b->(X b\/W.heap.size<=b)/\b<d.heap.size:=by
 obtain⟨F,t,FR,⟨s,D⟩,x,v,B⟩:=h;obtain⟨o,g,f,⟨F5,F6,⟨k,m⟩,C,u,n⟩,l,j⟩:=qA x;have z:∀b,b<W.heap.size/\¬(X b\/b=q)->g b:=λb a=>(n b).2 (.inl ((k b).2 a));refine⟨o,f,⟨m.size,m.out,m.os,λb a r=>?_⟩,λb a=>⟨aS λE=>?_,f.lt a⟩⟩
 ·by_cases c:b=q
  ·subst c;exact s.trans i.symm
  ·exact m.blk b a λp=>p.elim r c
 ·grind
def Gg.rn{u:Nat}{r0:Loop}(hR:∀l x j f,rnd l x j f=asg (x.getD 0 undef) λv=>Gw l (body l v j f))(O:Asg T fv fc xs asg)
  (I:Nat->β->List As->List As)(E:γ->List As->List As)(S:∀i b M,I i b M=I i b []++M)(hE:∀g M,E g M=E g []++M)(p:Nat->β->Prop)(pe:Code->γ->Prop)(U:β)(h0:p 0 U)
  (r:∀i (hi:i<xs.length) b,p i b->∀l q M j f,(∀Q,p (i+1) Q->Gs (pt q (fc xs[i]) T::I (i+1) Q M) j)->(∀c g,pe c g->Gs (pt q (fc xs[i]) T::E g M) (f c))->Gs (pt q (fc xs[i]) T::I i b M) (body l (cU q 0) j f))
  (G:∀b,p xs.length b->Gs (I xs.length b (pJ u r0::L)) (after [] none))(t:∀c g,pe c g->Gs (E g (pJ u r0::L)) (after [] (some c)))
  (V:bL L0 (I 0 U (pJ u r0::L)):=by exact kz):Gg gv (xs.map λa=>[fv a]) L0 (Rw pQ (some u) gv 1 rnd after):=⟨λw y ht=>by
 obtain⟨F,z⟩:=y;have z:=(V.out w F).1 z;rw[S]at z;obtain⟨J,FL,s1,R,s3,s4⟩:=qA z;obtain⟨-,-,⟨hr0,-⟩,-⟩:=R;obtain⟨J,FL,s1,R,s3,s4⟩:=qA z;show HD pQ (some u) gv w 1 _ after
 have e:(λl x w j f=>rnd l x j f w)=(λ(l:Nat) (x:LV_) (W:Wt_) (Z:World->Prop) (KJ:Code->World->Prop)=>(λ(x:Vt_) (W:Wt_) (K:Value->World->Prop)=>asg x K W) (x.getD 0 undef) W λv w2=>qr l w2 λw3=>(λl v W j f=>body l v j f W) l v w3 Z KJ):=by
  funext l x w j f;rw[hR];rfl
 rw[e]
 have n:∀{A:List As} {X:NP_} {W:Wt_},tR W A X->bn J w W->(∀b,X b->b<W.heap.size/\(J b\/w.heap.size<b))->Ss W (A++pJ u r0::L):=λ{A X W} h m o=>by
  have k2:=R.md m λb d k=>s3 b k d
  obtain⟨F',k3,k4⟩:=tp h k2 λb d k=>by
   rcases(o b d).2 with h' |h'
   ·exact s3 b h' k
   ·have:=R.lt k;omega
  exact⟨F',k3⟩
 refine WE (asg:=λ(x:Vt_) (W:Wt_) (K:Value->World->Prop)=>asg x K W) (body:=λl v W j f=>body l v j f W) (Pv:=λa v q W=>v=.pointer (some ⟨q,0,none⟩)/\hp W q=some (.cells (fc a).toArray T (0,0))) ⟨r0,hr0⟩ ht (λa ha W K hK=>O a ha W K λw2 N D=>hK w2 _ ⟨rfl,N⟩ D) (λa v q W B H h m P=>⟨h.1,m.keep h.2 P⟩)
  (λX i W=>∃b,p i b/\tR W (I i b []) X) (λc X W=>∃g,pe c g/\tR W (E g []) X) (λX i W B H ⟨b,N,D⟩ m P=>⟨b,N,D.md m P⟩) (λc X W B H ⟨g,N,D⟩ m P=>⟨g,N,D.md m P⟩) (X0:=J) (λb d=>s1.lt d) ⟨U,h0,s1⟩ ?_ ?_ ?_
 ·rintro X i hi W q v ⟨b,d,C⟩ m o hq1 hq2 ⟨rfl,hq⟩ Z KJ hKN hKJ;have Y:¬X q:=λh=>by have:=(o q h).1;omega
  refine(r i hi b d w.heap.size q [uu W (λy=>X y\/y=q)] Z KJ (λQ hb' =>⟨λB h=>?_⟩) λc g hg=>⟨λB h=>?_⟩).go W ?_
  ·rw[S]at h;obtain⟨X',k1,k2,k4⟩:=HM hq h;exact hKN X' B ⟨Q,hb',k1⟩ k2 k4
  ·rw[hE]at h;obtain⟨X',k1,k2,k4⟩:=HM hq h;exact hKJ c X' B ⟨g,hg,k1⟩ k2 k4
  ·rw[S];have s:tR W (uu W (λy=>X y\/y=q)::[]) (λb=>b<W.heap.size/\¬(X b\/b=q)):=⟨_,λ_=>False,⟨λ_=>aI,bn.refl _ _⟩,λ_ h=>h,eI,λb=>(or_iff_left id).symm⟩
   obtain⟨F',k1,k2⟩:=tp C s λb d k=>k.2 (.inl d);refine Ss.cons.2 ⟨λy=>y=q,F',⟨hq,λ_=>aI⟩,k1,λb d k=>?_⟩;subst d;rcases(k2 b).1 k with h|h
   ·exact Y h
   ·exact h.2 (.inr rfl)
 ·rintro X W ⟨b,d,C⟩ m o;have:=(G b d).go W;rw[S]at this;exact this (n C m o)
 ·rintro c X W ⟨g,hg,C⟩ m o;have:=(t c g hg).go W;rw[hE]at this;exact this (n C m o)⟩
def RM{A:List As}{W a:Wt_}{X:NP_}(h:Ss a (A++uu W X::[])):∃d,tR a A d/\bn X W a/\∀b,d b->(X b\/W.heap.size<=b)/\b<a.heap.size:=by
 obtain⟨F,x⟩:=h;obtain⟨l,n,f,⟨F5,F6,⟨j,m⟩,q,o,k⟩,c,i⟩:=qA x;exact⟨l,f,m,λb e=>⟨aS λg=>c b e ((k b).2 (.inl ((j b).2 ⟨aS λp=>g (.inr qZ),λh=>g (.inl h)⟩))),f.lt e⟩⟩
def Gg.r0{n:Nat}{r0:Loop}{bd:Nat->WP->(Code->WP)->WP}(hR:∀l x c f,rnd l x c f=Gw l (bd l c f))
  (I:Nat->β->List As->List As)(t:∀i b M,I i b M=I i b []++M)(p:Nat->β->Prop)(u:β)(h0:p 0 u)
  (g:∀i,i<xs.length->∀b,p i b->∀l M c f,(∀o,p (i+1) o->Gs (I (i+1) o M) c)->Gs (I i b M) (bd l c f))
  (k:∀b,p xs.length b->Gs (I xs.length b (pJ n r0::L)) (after [] none))
  (A:bL L0 (I 0 u (pJ n r0::L)):=by exact kz):Gg gv (xs.map λa=>[fv a]) L0 (Rw pQ (some n) gv 1 rnd after):=⟨λw y V=>by
 obtain⟨F,z⟩:=y;have z:=(A.out w F).1 z;rw[t]at z;obtain⟨N,U,s1,r,O,s4⟩:=qA z;obtain⟨-,-,⟨J,-⟩,-⟩:=r;obtain⟨N,U,s1,r,O,s4⟩:=qA z;show HD pQ (some n) gv w 1 _ after
 have e:(λl x w c f=>rnd l x c f w)=(λ(l:Nat) (x:LV_) (W:Wt_) (B:World->Prop) (G:Code->World->Prop)=>(λ(x:Vt_) (W:Wt_) (K:Value->World->Prop)=>K x W) (x.getD 0 undef) W λv w2=>qr l w2 λY=>(λl v W c f=>bd l c f W) l v Y B G):=by
  funext l x w c f;rw[hR];rfl
 rw[e]
 refine WE (asg:=λ(x:Vt_) (W:Wt_) (K:Value->World->Prop)=>K x W) (body:=λl v W c f=>bd l c f W) (Pv:=λ_ _ _ _=>True) ⟨r0,J⟩ V (λa ha W K hK=>hK W _ trivial (bn.refl _ W)) (λ_ _ _ _ _ _ _ _ _=>trivial)
  (λX i W=>∃b,p i b/\tR W (I i b []) X) (λ_ _ _=>False) (λX i W S H ⟨b,h1,h2⟩ m hn=>⟨b,h1,h2.md m hn⟩) (λ_ _ _ _ _ h=>h.elim) (X0:=N) (λb d=>s1.lt d) ⟨u,h0,s1⟩ ?_ ?_ (λ_ _ _ h=>h.elim)
 ·rintro X i hi W q v ⟨b,d,D⟩ m Q hq1 Z - B G C hKJ;refine(g i hi b d w.heap.size [uu W X] B G (λo E=>⟨λS h=>?_⟩)).go W ?_
  ·rw[t]at h;obtain⟨X',k1,k2,k4⟩:=RM h;exact C X' S ⟨o,E,k1⟩ k2 k4
  ·rw[t];have s:tR W (uu W X::[]) (λb=>b<W.heap.size/\¬X b):=⟨_,λ_=>False,⟨λ_=>aI,bn.refl _ _⟩,λ_ h=>h,eI,λb=>(or_iff_left id).symm⟩
   obtain⟨P,k1,-⟩:=tp D s λb d j=>j.2 d;exact⟨P,k1⟩
 ·rintro X W ⟨b,d,D⟩ m Q;have:=(k b d).go W;rw[t]at this;have k2:=r.md m λb d j=>O b j d
  obtain⟨P,k3,-⟩:=tp D k2 λb d j=>by
   rcases(Q b d).2 with R|R
   ·exact O b R j
   ·have:=r.lt j;omega
  exact this ⟨P,k3⟩⟩
end
section
variable{P:Program}{A B:As}{L M:List As}{k:Value->WP}{v:Vt_}{φ:(Value->WP)->WP}
def Gs.rd1(f:∀w F,Ss w L->A.P w F->∀K:be,(∀d,M0 w d->K v d)->φ K w)(e:Gs L (k v))(p:bL L (A::M)):Gs L (φ k):=
 ⟨λw y=>(fg p y).elim λF q=>f w F y q k λd m=>e.go d (y.md0 m)⟩
def Gs.up1(i:∀w F,A.P w F->∀K:be,(∀d,B.P d F->bn F w d->K v d)->φ K w)(e:Gs (B::M) (k v))(p:bL L (A::M)):Gs L (φ k):=
 Gs.old (A:=A) (val:=λ_:Unit=>v) (p:=λ_=>True) (B:=λ_=>B) (λw F _ j K f=>i w F j K λd g m=>f () d F trivial g m λy h=>.inl h) (λ_ _=>e) p
end
section
variable{L M:List As}{k:Value->WP}{c l b:Nat}{C:oq}{X:bq}{B:Bk}{n a m price:Int}
def pK(d:Gs L (k (.tuple #[jG (X.getV n).1,gI (X.getV n).2])))(p:bL L (jV l X::M):=by exact gy):Gs L (Cw pQ 56 #[eK l,gU n] k):=Gs.rd1 (λw F _ q K h=>XR q h) d p
def rJ(d:Gs L (k (mK (X.position n a))))(p:bL L (jV l X::M):=by exact gy):Gs L (Cw pQ 222 #[eK l,gU n,gU a] k):=Gs.rd1 (λw F _ q K h=>um q h) d p
def EF{a:Ac}(e:0<=a.num/\a.num<4294967296)(d:Gs (jV l (X.set a).2::M) (k (gI (X.set a).1)))(p:bL L (jV l X::M):=by exact gy):Gs L (Cw pQ 145 #[eK l,jG a] k):=Gs.up1 (λw F q K h=>Ym q e h) d p
def J0(e:0<=n/\n<4294967296)(d:Gs (jV l (X.deposit n m).2::M) (k (gI (X.deposit n m).1)))(p:bL L (jV l X::M):=by exact gy):Gs L (Cw pQ 132 #[eK l,gU n,gI m] k):=Gs.up1 (λw F q K h=>Kw q e h) d p
def In(e:0<=n/\n<4294967296)(d:Gs (jV l (X.withdraw n m).2::M) (k (gI (X.withdraw n m).1)))(p:bL L (jV l X::M):=by exact gy):Gs L (Cw pQ 199 #[eK l,gU n,gI m] k):=Gs.up1 (λw F q K h=>Ge q e h) d p
def Iu{c b s d x:Int}(f:0<=c/\c<4294967296)(e:Gs (jV l (X.trade c b s d x).2::M) (k (gI (X.trade c b s d x).1)))(p:bL L (jV l X::M):=by exact gy):Gs L (Cw pQ 273 #[eK l,gU c,gU b,gU s,gI d,gI x] k):=Gs.up1 (λw F q K h=>Tk q f h) e p
def wS(d:Gs L (k (.tuple #[.agg (dh (dw C.l n).1).toArray,gI (dw C.l n).2])))(p:bL L (lT c C::M):=by exact gy):Gs L (Cw pQ 143 #[gk c,gU n] k):=Gs.rd1 (λw F _ q K h=>VU q h) d p
def To(d:Gs (lT c (eJ C).2::M) (k (gI (eJ C).1)))(p:bL L (lT c C::M):=by exact gy):Gs L (Cw pQ 204 #[gk c] k):=Gs.up1 (λw F q K h=>Ps q h) d p
def QS{on:Bool}(d:Gs (lT c (jB C n on).2::M) (k (gI (jB C n on).1)))(p:bL L (lT c C::M):=by exact gy):Gs L (Cw pQ 135 #[gk c,gU n,.bool on] k):=Gs.up1 (λw F q K h=>QY q h) d p
def GW(d:Gs (lT c (fF C n price).2::M) (k (gI (fF C n price).1)))(p:bL L (lT c C::M):=by exact gy):Gs L (Cw pQ 136 #[gk c,gU n,gI price] k):=Gs.up1 (λw F q K h=>Gk q h) d p
def Kv(d:Gs (lT c (eX C n).2::M) (k (gI (eX C n).1)))(p:bL L (lT c C::M):=by exact gy):Gs L (Cw pQ 209 #[gk c,gU n] k):=Gs.up1 (λw F q K h=>Ky q h) d p
def FV(e:Gs (Cp b (eY B n).2.1::M) (k (.tuple #[mi (eY B n).2.2,gI (eY B n).1])))(p:bL L (Cp b B::M):=by exact gy):Gs L (Cw pQ 212 #[fe b,gQ n] k):=
 Gs.old (A:=Cp b B) (val:=λ_:Unit=>_) (p:=λ_=>True) (B:=λ_=>Cp b (eY B n).2.1) (λw F _ q K h=>wO q λf g i j d=>h () g f trivial i j d) (λ_ _=>e) p
def Tc{g:Gt}(d:g.Fit)(e:Gs L (k (gI g.check))):Gs L (Cw pQ 271 #[.agg (yT g).toArray] k):=⟨λw y=>Q6 d λf m=>e.go f (y.md0 m)⟩
def Mt(i:∀x y,Gs (Cp b (iU B a).1::lX (.slice x (iU B a).2.length y) (iU B a).2::M) (k (.slice x (iU B a).2.length y)))(p:bL L (Cp b B::M):=by exact gy):Gs L (Cw pQ 210 #[fe b,gU a] k):=
 Gs.old (A:=Cp b B) (val:=λx:Option Addr×Nat=>.slice x.1 (iU B a).2.length x.2) (p:=λ_=>True) (B:=λx=>(Cp b (iU B a).1).mul (lX (.slice x.1 (iU B a).2.length x.2) (iU B a).2)) (λw F _ q K h=>Ut q λe sl g r o j f nn=>by
  obtain⟨x,y,rfl,-⟩:=o.isSl;exact h (x,y) g (λy=>e y\/aQ _ y) trivial ⟨e,aQ _,r,⟨o,λ_=>aI⟩,λy d s=>(nn y s).2 d,λ_=>aI⟩ j λy d=>d.elim (f y) λh=>.inr (nn y h).1) (λx _=>(i x.1 x.2).pk My) p
def uW(e:∀d,Gg d (C.l.map λk=>[.agg (dh k).toArray]) L (k d))(p:bL L (lT c C::M):=by exact gy):Gs L (Cw pQ 51 #[gk c] k):=⟨λw y=>(fg p y).elim λF q=>Ud q λd f t m=>(e d).go f (y.md0 m) t⟩
def Mf{A:List (Int×Nat)}{bk:Int->Bk}(g:lk A n=some b)(e:∀d,Gg d ((bk n).all.map λo=>[mi o]) L (k d))(p:bL L (qG A bk::M):=by exact gy):Gs L (Cw pQ 61 #[fe b] k):=⟨λw y=>(fg p y).elim λF ⟨h,q⟩=>EX (q.q n b trivial g) λd f t m=>(e d).go f (y.md0 m) t⟩
def zg(e:∀d,Gg d (X.all.map λa=>[jG a]) L (k d))(p:bL L (jV l X::M):=by exact gy):Gs L (Cw pQ 59 #[eK l] k):=⟨λw y=>(fg p y).elim λF q=>H2 q λd f t m=>(e d).go f (y.md0 m) t.m⟩
def AT(hl:X.held.length<4294967295)(e:∀d,Gg d ((X.holders n).map λa=>[mK a]) L (k d))(p:bL L (jV l X::M):=by exact gy):Gs L (Cw pQ 60 #[eK l,gU n] k):=⟨λw y=>(fg p y).elim λF q=>BN q hl λd f t m=>(e d).go f (y.md0 m) t.m⟩
def TV(hl:X.held.length<4294967295)(e:∀d,Gg d ((X.ofA n).map λa=>[mK a]) L (k d))(p:bL L (jV l X::M):=by exact gy):Gs L (Cw pQ 207 #[eK l,gU n] k):=⟨λw y=>(fg p y).elim λF q=>TN q hl λd f t m=>(e d).go f (y.md0 m) t.m⟩
end
def Od.key(o:Od):Int×Int×Bool×Int:=(o.num,o.acct,o.buy,o.price)
def nJ(h:o.key=o'.key):o.num=o'.num:=dP (·.1) h
def wM(h:o.key=o'.key):o.acct=o'.acct:=dP (·.2.1) h
def LG(h:o.key=o'.key):o.buy=o'.buy:=dP (·.2.2.1) h
def qN(h:o.key=o'.key):o.price=o'.price:=dP (·.2.2.2) h
structure gA(l' l:List Od):Prop where
 sub:(l'.map Od.key).Sublist (l.map Od.key)
 left:∀o∈l',1<=o.left/\o.left<=1000000
def jm(h:o.may=true):1<=o.left/\o.left<=1000000:=Od.left_bd h
def Au(h:o.key=o'.key)(a:o.may=true)(hl:1<=o'.left/\o'.left<=1000000):o'.may=true:=by
 unfold Od.may at*;rw[<-nJ h,<-wM h,<-qN h];simp only[ah]at a|-;exact⟨a.1,aA hl⟩
def gA.refl(h:∀o∈l,o.may=true):gA l l:=⟨cB _,λo a=>jm (h o a)⟩
def gA.mem{b:List Od}(h:gA b l){o:Od}(c:o∈b):∃a∈l,a.key=o.key:=by
 have:=h.sub.mem (aV (f:=Od.key) c);obtain⟨a,e,d⟩:=aD.1 this;exact⟨a,e,d⟩
def Lx(l:List Od):l.map (·.num)=(l.map Od.key).map (·.1):=by rw[da];rfl
def gA.nums(h:gA a l):(a.map (·.num)).Sublist (l.map (·.num)):=by
 rw[Lx,Lx];exact h.sub.map _
def gA.len(h:gA a l):a.length<=l.length:=by
 have:=h.sub.length_le
 rwa[af,af]at this
def gA.of_sub(h:a.Sublist l)(hl:∀o∈l,o.may=true):gA a l:=⟨h.map _,λo b=>jm (hl o (h.mem b))⟩
def gA.filter(hl:∀o∈l,o.may=true)(p:Od->Bool):gA (l.filter p) l:=gA.of_sub ep hl
def gA.set(hl:∀o∈l,o.may=true){i:Nat}(hi:i<l.length){x:Int}(b:1<=x/\x<=1000000):gA (l.set i {l[i]with left:=x}) l:=by
 refine⟨?_,λo a=>?_⟩
 ·rw[fU]
  have e:(l.map Od.key).set i (Od.key {l[i]with left:=x})=l.map Od.key:=by
   have:Od.key {l[i]with left:=x}=(l.map Od.key)[i]'(by simpa using hi):=by rw[cn];rfl
   rw[this,gx]
  rw[e];exact cB _
 ·rcases ec a with a|rfl
  ·exact jm (hl o a)
  ·exact b
structure YS(o:Od)(left:Int)(L:List Od)(x:Int×List Od×List Td×List Int×Int):Prop where
 sub:gA x.2.1 L
 rest:0<=x.1/\x.1<=left
 fill:x.2.2.2.2+x.1=left
 qty:(x.2.2.1.map (·.qty)).sum=x.2.2.2.2
 tr:∀t∈x.2.2.1,1<=t.qty/\t.qty<=1000000/\t.acct≠o.acct/\∃b∈L,b.num=t.num/\b.acct=t.acct/\b.price=t.price/\t.qty<=b.left/\gu o b.price=true
 gone:∀g∈x.2.2.2.1,∃b∈L,b.num=g/\b.acct=o.acct
def ED{o:Od}:∀{L:List Od} {left:Int},0<=left->(∀b∈L,b.may=true)->YS o left L (eu o left L)
 | [],left,l,m=>⟨⟨cB _,by simp[eu]⟩,by simp[eu];omega,by simp[eu],by simp[eu],by simp[eu],by simp[eu]⟩
 |b::r,left,l,m=>by
  have B:=jm (m b ai);have v:∀x∈r,x.may=true:=λx A=>m x (ae _ A);by_cases k:left<=0\/gu o b.price=false
  ·have e:eu o left (b::r)=(left,b::r,[],[],0):=by unfold eu;rw[ab k]
   rw[e];exact⟨gA.refl m,⟨l,eh _⟩,by simp,by simp,by simp,by simp⟩
  ·have D:gu o b.price=true:=by
    cases h:gu o b.price with
    |true=>rfl
    |false=>exact absurd (.inr h) k
   by_cases q:b.acct=o.acct
   ·have c:=ED (o:=o) (L:=r) l v
    have e:eu o left (b::r)=((eu o left r).1,(eu o left r).2.1,(eu o left r).2.2.1,b.num::(eu o left r).2.2.2.1,(eu o left r).2.2.2.2):=by
     conv=>lhs;unfold eu
     rw[aa k,ab q]
    rw[e];refine⟨⟨c.sub.sub.trans (List.sublist_cons_self _ _),c.sub.left⟩,c.rest,c.fill,c.qty,λt i=>?_,λg j=>?_⟩
    ·obtain⟨u,n,p,d,a,f⟩:=c.tr t i;exact⟨u,n,p,d,ae _ a,f⟩
    ·rcases aq.1 j with rfl|j
     ·grind
     ·obtain⟨d,a,f⟩:=c.gone g j;exact⟨d,ae _ a,f⟩
   ·by_cases w:left<b.left
    ·have e:eu o left (b::r)=(0,{b with left:=b.left - left}::r,[⟨b.price,left,b.num,b.acct⟩],[],left):=by unfold eu;rw[aa k,aa q,ab w]
     rw[e];refine⟨⟨cB _,λz s=>?_⟩,⟨eh _,l⟩,by simp,by simp,λt i=>?_,by simp⟩
     ·rcases aq.1 s with rfl|s
      ·grind
      ·exact jm (v z s)
     ·grind
    ·have c:=ED (o:=o) (L:=r) (left:=left - b.left) qZ v
     have e:eu o left (b::r)=((eu o (left - b.left) r).1,(eu o (left - b.left) r).2.1,⟨b.price,b.left,b.num,b.acct⟩::(eu o (left - b.left) r).2.2.1,(eu o (left - b.left) r).2.2.2.1,b.left+(eu o (left - b.left) r).2.2.2.2):=by
      conv=>lhs;unfold eu
      rw[aa k,aa q,aa w]
     rw[e];have y:=c.rest;have C:=c.fill;refine⟨⟨c.sub.sub.trans (List.sublist_cons_self _ _),c.sub.left⟩,⟨y.1,by grind⟩,by grind,?_,λt i=>?_,λg j=>?_⟩
     ·show(List.map _ (_::_)).sum=_;rw[aH,bp,c.qty]
     ·rcases aq.1 i with rfl|i
      ·grind
      ·obtain⟨u,n,p,d,a,f⟩:=c.tr t i;exact⟨u,n,p,d,ae _ a,f⟩
     ·obtain⟨d,a,f⟩:=c.gone g j;exact⟨d,ae _ a,f⟩
def Cd(B:Bk):Prop:=∀d,∀o∈B d,o.may=true/\o.buy=d
def nP(buy:Bool)(l:List Od)(o:Od):(su buy l o).Perm (o::l):=by
 unfold su;apply ky.trans;rw[ce]
def GN{buy:Bool}(b:o.may=true)(e:o.buy=buy):
  ((oX buy l o).2=l/\(oX buy l o).1≠0)\/((oX buy l o).2.Perm (o::l)/\l.length<100/\(∀x∈l,x.num≠o.num)/\(oX buy l o).2=su buy l o):=by
 unfold oX;rw[aa (by simp[b,e])];by_cases a:(l.any λx=>decide (x.num=o.num))=true
 ·grind
 ·rw[aa a];by_cases d:100<=l.length
  ·grind
  ·rw[aa d];refine .inr ⟨nP _ _ _,qZ,λx f c=>a ?_,rfl⟩;rw[ia];exact⟨x,f,aA c⟩
structure Yk(B:Bk)(o:Od)(x:Bk×Pm):Prop where
 opp:gA (x.1 (!o.buy)) (B !o.buy)
 own:x.1 o.buy=B o.buy\/(0<x.2.left/\x.1 o.buy=su o.buy (B o.buy) {o with left:=x.2.left}/\(B o.buy).length<100/\∀y∈B o.buy,y.num≠o.num)
 fill:0<=x.2.left/\0<=x.2.filled/\x.2.filled+x.2.left<=o.left
 qty:(x.2.trades.map (·.qty)).sum=x.2.filled
 tr:∀t∈x.2.trades,1<=t.qty/\t.qty<=1000000/\t.acct≠o.acct/\∃b∈B !o.buy,b.num=t.num/\b.acct=t.acct/\b.price=t.price/\t.qty<=b.left/\gu o b.price=true
def Bk.set_ne(B:Bk){d e:Bool}(l:List Od)(h:e≠d):B.set d l e=B e:=aa h
def xP{rests:Bool}(j:Cd B)(e:o.may=true):Yk B o (eP B o rests):=by
 have r:=jm e;have a:=ED (o:=o) (L:=B !o.buy) (left:=o.left) qZ λb h=>(j _ b h).1;obtain⟨x,g⟩:=dW (eu o o.left (B !o.buy));rw[<-g]at a;have k:=a.rest;have m:=a.fill;have n:0<=x.2.2.2.2:=qZ;have c:o.buy≠ !o.buy:=by grind
 unfold eP;simp only[<-g];by_cases f:rests=true/\0<x.1
 ·rw[ab f];have i:=Au (o:=o) (o' :={o with left:=x.1}) rfl e (by grind);refine⟨?_,?_,by grind,a.qty,a.tr⟩
  ·show gA (Bk.set _ _ _ _) _;rw[Bk.set_other,Bk.set_self];exact a.sub
  ·show Bk.set _ _ _ _=_\/(0<x.1/\Bk.set _ _ _ _=su _ _ {o with left:=x.1}/\_);rw[Bk.set_self,Bk.set_ne _ _ c];rcases GN (l:=B o.buy) (buy:=o.buy) i rfl with⟨d,-⟩|⟨d,s,p,q⟩
   ·exact .inl d
   ·grind
 ·rw[aa f];refine⟨?_,.inl ?_,by grind,a.qty,a.tr⟩
  ·show gA (Bk.set _ _ _ _) _;rw[Bk.set_self];exact a.sub
  ·show Bk.set _ _ _ _=_;rw[Bk.set_ne _ _ c]
def vK(h:∀o∈l,o.num≠n):nA l n=none:=by
 unfold nA;rw[dS];exact λx a=>by simpa using h x a
def jZ(d:(l.map (·.num)).Nodup){o:Od}(b:o∈l):nA l o.num=some o:=by
 induction l with
 |nil=>cases b
 |cons a l g=>
  rw[aH,bO]at d;unfold nA;rw[iJ];rcases aq.1 b with rfl|b
  ·simp
  ·have c:a.num≠o.num:=λe=>d.1 (e▸aV (f:=(·.num)) b);rw[aG c];exact g d.2 b
def DB(h:nA l n=some o):o∈l/\o.num=n:=by
 unfold nA at h;exact⟨dt h,by grind⟩
def EM(b:(l.map (·.num)).Nodup)(n:Int):oB l n=l.filter λo=>decide (o.num≠n):=by
 unfold oB;induction l with
 |nil=>rfl
 |cons a l d=>
  rw[aH,bO]at b;by_cases h:a.num=n
  ·rw[List.eraseP_cons_of_pos (by simpa using h),aU (by simpa using h),cC.2 λx c=>?_];have:x.num≠a.num:=λe=>b.1 (e▸aV (f:=(·.num)) c);rw[aA];omega
  ·grind
def t7(B:Bk):Prop:=(B.all.map (·.num)).Nodup
def t7.side(h:t7 B)(d:Bool):((B d).map (·.num)).Nodup:=by
 unfold t7 Bk.all at h;rw[aK,dg]at h;cases d
 ·exact h.2.1
 ·exact h.1
def t7.ne(h:t7 B){d e:Bool}{x y:Od}(i:x∈B d)(g:y∈B e)(c:x.num=y.num):d=e/\x=y:=by
 unfold t7 Bk.all at h;rw[aK,dg]at h
 have m:∀(l:List Od),(l.map (·.num)).Nodup->x∈l->y∈l->x=y:=λl f k j=>by
  have a:=jZ f k;have b:=jZ f j;rw[c,b]at a;exact(cM a).symm
 cases d<;>cases e
 ·grind
 ·exact absurd c.symm (h.2.2 _ (aV g) _ (aV i))
 ·exact absurd c (h.2.2 _ (aV i) _ (aV g))
 ·grind
def Vk(h:t7 B){d:Bool}{o:Od}(a:o∈B d):B.find o.num=some (o,d):=by
 unfold Bk.find;cases d
 ·rw[vK λx c b=>by have:=(h.ne c a b).1;cases this];simp only;rw[jZ (h.side false) a]
 ·rw[jZ (h.side true) a]
def xg{d:Bool}(h:B.find n=some (o,d)):o∈B d/\o.num=n:=by
 unfold Bk.find at h;cases b:nA (B true) n with
 |some x=>
  rw[b]at h;cases h;exact DB b
 |none=>
  rw[b]at h;simp only at h;cases a:nA (B false) n with
  |some x=>
   rw[a]at h;cases h;exact DB a
  |none=>rw[a]at h;cases h
def Bk.flt(B:Bk)(p:Od->Bool):Bk:=λd=>(B d).filter p
def wi(h:t7 B){n:Int}{o:Od}{d:Bool}(c:B.find n=some (o,d)):(eY B n).2.1=B.flt λo=>decide (o.num≠n):=by
 unfold eY;rw[c];funext e;have b:=xg c;show Bk.set _ _ _ _=_;unfold Bk.flt;by_cases a:e=d
 ·subst a;rw[Bk.set_self,EM (h.side e)]
 ·rw[Bk.set_ne _ _ a,cC.2 λx f=>?_];rw[aA];intro g;exact a (h.ne f b.1 (g.trans b.2.symm)).1
def Tt(B:Bk)(p q:Od->Bool):(B.flt p).flt q=B.flt λo=>q o&& p o:=by
 funext d;unfold Bk.flt;rw[gl]
def KB(B:Bk)(p:Od->Bool):(B.flt p).all=B.all.filter p:=by
 unfold Bk.all Bk.flt;rw[cj]
def t7.flt(h:t7 B)(p:Od->Bool):t7 (B.flt p):=by
 unfold t7;rw[KB];exact h.sublist (ep.map _)
def qF:o∈B.all↔∃d,o∈B d:=by
 unfold Bk.all;rw[aN];constructor
 ·rintro(h|h)
  ·exact⟨true,h⟩
  ·exact⟨false,h⟩
 ·rintro⟨d,h⟩;cases d
  ·exact .inr h
  ·exact .inl h
def yD{a:Int}:∀(l:List Od) (B:Bk),t7 B->(l.map (·.num)).Nodup->(∀o∈l,o∈B.all)->tY a B l=B.flt λo=> !(l.any λx=>decide (x.num=o.num)&& lv a x)
 | [],B,_,_,_=>by
  funext d;unfold tY Bk.flt;exact(cC.2 λx k=>rfl).symm
 |x::l,B,h,c,i=>by
  rw[aH,bO]at c;have k:=i x ai;obtain⟨d,n⟩:=qF.1 k;have p:tY a B (x::l)=tY a (if lv a x then(eY B x.num).2.1 else B) l:=rfl;rw[p];by_cases g:lv a x=true
  ·rw[ab g,wi h (Vk h n)];rw[yD l _ (h.flt _) c.2 λo b=>?_,Tt]
   ·funext e;unfold Bk.flt;refine dx λo b=>?_;rw[List.any_cons,g,Bool.and_true,Bool.not_or];by_cases m:x.num=o.num
    ·grind
    ·grind
   ·rw[KB,aM];refine⟨i o (ae _ b),?_⟩;rw[aA];exact λm=>c.1 (m▸aV (f:=(·.num)) b)
  ·rw[aa g,yD l _ h c.2 λo b=>i o (ae _ b)];funext e;unfold Bk.flt;refine dx λo b=>?_;have j:lv a x=false:=by simpa using g
   rw[List.any_cons,j,oL,eZ]
def GY(h:t7 B)(a:Int):(iU B a).1=B.flt λo=> !lv a o:=by
 unfold iU;simp only;rw[yD _ _ h h λo c=>c];funext d;unfold Bk.flt;refine dx λo c=>?_;congr 1;rw[bT,ia];constructor
 ·rintro⟨x,i,b⟩;rw[ah,ax]at b;obtain⟨e,f⟩:=qF.1 i;rw[<-(h.ne f c b.1).2];exact b.2
 ·intro g;exact⟨o,qF.2 ⟨d,c⟩,by simp[g]⟩
def FT{l:List Po}(h:kf l){p:Po}(hp:p∈l):l.find? (λx=>decide (x.key=p.key))=some p:=bq.pos_some (S:=⟨0,[],l⟩) h hp
def bq.pos_putP(h:kf S.held)(p:Po)(k:Int×Int):(S.putP p).pos? k=if k=p.key then(if p.isZ then none else some p)else S.pos? k:=by
 have i:=rX h p;by_cases c:k=p.key
 ·subst c;rw[ab rfl];cases g:p.isZ with
  |true=>
   simp only[de];unfold bq.pos? bq.putP;rw[dS];intro x f;rcases rg.1 f with⟨_,a⟩|⟨_,a⟩
   ·simpa using a
   ·rw[g]at a;cases a
  |false=>
   exact bq.pos_some (S:=S.putP p) i (rg.2 (.inr ⟨rfl,g⟩))
 ·rw[aa c];cases b:S.pos? k with
  |some x=>
   obtain⟨d,a⟩:=bq.pos_mem b;have:=bq.pos_some (S:=S.putP p) i (rg.2 (.inl ⟨d,λe=>c (a▸e)⟩))
   rwa[a]at this
  |none=>
   unfold bq.pos? at b|-;rw[dS]at b|-;intro x f;rcases rg.1 f with⟨d,_⟩|⟨rfl,_⟩
   ·exact b x d
   ·grind
def bq.position_putP(h:kf S.held)(p:Po)(c a:Int):(S.putP p).position c a=if c=p.c/\a=p.a then p else S.position c a:=by
 unfold bq.position;rw[bq.pos_putP h];by_cases d:c=p.c/\a=p.a
 ·obtain⟨rfl,rfl⟩:=d;rw[ab (show(p.c,p.a)=p.key from rfl),ab (show p.c=p.c/\p.a=p.a from ww)];cases b:p.isZ with
  |false=>rfl
  |true=>
   unfold Po.isZ at b;simp only[ax]at b;obtain⟨f,pa,i,g⟩:=p;simp only at b;simp[b.1,b.2]
 ·rw[aa (λe=>d (by simpa [Po.key]using e)),aa d]
def bq.trade_ok{c b s p:Int}(h:(S.trade c b s p n).1=0):b≠s/\
  (S.trade c b s p n).2=(S.putP ⟨c,b,(S.position c b).q+n,(S.position c b).b+p*n⟩).putP ⟨c,s,(S.position c s).q - n,(S.position c s).b - p*n⟩:=by
 unfold bq.trade at h|-;by_cases a:c=0\/b=0\/s=0\/b=s\/aY p 1 MP=false\/aY n 1 MP=false
 ·grind
 ·rw[aa a]at h|-;by_cases d:S.find b=none\/S.find s=none
  ·grind
  ·rw[aa d]at h|-;simp only at h|-;refine⟨λe=>a (.inr (.inr (.inr (.inl e)))),?_⟩;split at h
   ·cases h
   ·grind
def bq.trade_all{c b s p:Int}:(S.trade c b s p n).2.all=S.all/\(S.trade c b s p n).2.fund=S.fund:=by
 unfold bq.trade;split
 ·exact ww
 ·split
  ·exact ww
  ·simp only;split<;>exact ww
end Go.Proofs
