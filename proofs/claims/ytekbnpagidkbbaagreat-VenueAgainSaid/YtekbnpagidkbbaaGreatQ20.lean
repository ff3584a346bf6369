/- Part of a proof. -/
import Derived.Test.YtekbnpagidkbbaaGreatQ19
set_option linter.all false
namespace Go.Proofs
open Go Go.Vc
def nJ(c:Nat)(C:oe):As:=⟨λw F=>lW w c F C,λh hb=>h.lt hb,λh m hg=>h.mod m hg⟩
def mi(l:Nat)(X:bE):As:=⟨λw F=>ig w l F X,λh hb=>h.lt hb,λh m hg=>h.mod m hg⟩
def Bq(b:Nat)(B:Bk):As:=⟨λw F=>fU w b F B,λh hb=>h.lt hb,λh m hg=>h.mod m hg⟩
def tZ(v:Nat)(S:bo):As:=⟨λw F=>oP w v F S,λh hb=>h.lt hb,λh m hg=>h.mod m hg⟩
abbrev lX(s:Vt_)(l:List Od):As:=ow s ji 5 l.length (l.flatMap dx)
structure aa3(p:Int->Prop)(A:List (Int×Nat))(bk:Int->Bk)(w:Wt_)(F:NP_)(fp:Int->Nat->Prop):Prop where
 q:∀n b,p n->lk A n=some b->fU w b (fp n) (bk n)
 dj:∀n m x,p n->p m->fp n x->fp m x->n=m
 f:∀x,F x↔∃n,p n/\(lk A n).isSome=true/\fp n x
def VP(p:Int->Prop)(A:List (Int×Nat))(bk:Int->Bk):As:=⟨λw F=>∃fp,aa3 p A bk w F fp,λ⟨fp,h⟩ hb=>by
  obtain⟨n,hp,hs,hx⟩:=(h.f _).1 hb;obtain⟨b,e⟩:=eY.1 hs;exact(h.q n b hp e).lt hx,λ⟨fp,h⟩ m hg=>⟨fp,λn b hp e=>(h.q n b hp e).mod m λx hx=>hg x ((h.f x).2 ⟨n,hp,by rw[e];rfl,hx⟩),h.dj,h.f⟩⟩
abbrev rG(A:List (Int×Nat))(bk:Int->Bk):As:=VP (λ_=>True) A bk
structure af5(p:Int->Prop)(D:List (Int×Value))(bd:Int->List Od)(w:Wt_)(F:NP_):Prop where
 q:∀n,p n->qp w (kQ D n) (bd n)
 dj:∀n m x,p n->p m->aK (kQ D n) x->aK (kQ D m) x->n=m
 f:∀x,F x↔∃n,p n/\aK (kQ D n) x
def RY(p:Int->Prop)(D:List (Int×Value))(bd:Int->List Od):As:=⟨λw F=>af5 p D bd w F,λh hb=>by
  obtain⟨n,hp,hx⟩:=(h.f _).1 hb;exact(h.q n hp).lt hx,λh m hg=>⟨λn hp=>(h.q n hp).mod m λx hx=>hg x ((h.f x).2 ⟨n,hp,hx⟩),h.dj,h.f⟩⟩
abbrev tU(D:List (Int×Value))(bd:Int->List Od):As:=RY (λ_=>True) D bd
structure oB(A:List (Int×Nat))(D:List (Int×Value))(C:List Ct)(bk:Int->Bk):Prop where
 dom:∀n,(lk A n).isSome=(cg C n).isSome
 dod:∀n,(lk D n).isSome=true->(cg C n).isSome=true
 nbk:∀n,lk A n=none->bk n=Bk.empty
abbrev Nr(v c l mb md:Nat)(n:Int):As:=pt v [fF c,eu l,.map (some mb),.map (some md),gQ n] zS
abbrev No(mb:Nat)(A:List (Int×Nat)):As:=mp eQ fa mb A
abbrev Nq(md:Nat)(D:List (Int×Value)):As:=mp eQ xk md D
abbrev vo(v c l mb md:Nat)(A:List (Int×Nat))(D:List (Int×Value))(C:oe)(X:bE)(bk:Int->Bk)(bd:Int->List Od)(n:Int)(L:List As):List As:=
 Nr v c l mb md n::nJ c C::mi l X::No mb A::Nq md D::rG A bk::tU D bd::L
abbrev vs(v c l mb md:Nat)(A:List (Int×Nat))(D:List (Int×Value))(S:bo)(L:List As):List As:=vo v c l mb md A D S.cal S.led S.bk S.bd S.next L
section
variable{L M:List As}{φ:WP}{A:List (Int×Nat)}{D:List (Int×Value)}{bk:Int->Bk}{bd:Int->List Od}{n:Int}{b v c l mb md:Nat}{B:Bk}{S:bo}{w:Wt_}
def Qp:∀(l:List (As×(Nat->Prop))) {F2:NP_},(∀x∈l,x.1.P w x.2)->l.Pairwise (λx y=>∀b,x.2 b->¬y.2 b)->tL w L F2->(∀x∈l,∀b,x.2 b->¬F2 b)->∃F,tL w (l.map (·.1)++L) F/\∀b,F b↔(∃x∈l,x.2 b)\/F2 b
 | [],F2,_,_,h,_=>⟨F2,h,λb=>by simp⟩
 |x::l,F2,h1,j,o,g=>by
  obtain⟨m,p⟩:=bX.1 j;obtain⟨F,k,i⟩:=Qp l (λy a=>h1 y (af _ a)) p o λy a=>g y (af _ a);refine⟨λb=>x.2 b\/F b,⟨x.2,F,h1 x ai,k,λb f e=>?_,λ_=>aG⟩,λb=>?_⟩
  ·rcases(i b).1 e with⟨y,a,d⟩|e
   ·exact m y a b f d
   ·exact g x ai b f e
  ·show x.2 b\/F b↔_;rw[i];constructor
   ·rintro(h|⟨y,a,h⟩|h)
    ·exact .inl ⟨x,ai,h⟩
    ·exact .inl ⟨y,af _ a,h⟩
    ·exact .inr h
   ·rintro(⟨y,a,h⟩|h)
    ·rcases ar.1 a with rfl|a
     ·exact .inl h
     ·exact .inr (.inl ⟨y,a,h⟩)
    ·exact .inr (.inr h)
set_option maxRecDepth 10000 in
def Ou(h:∀c l mb md A D,oB A D S.cal.l S.bk->Gs (vo v c l mb md A D S.cal S.led S.bk S.bd S.next L) φ):Gs (tZ v S::L) φ:=⟨λw y=>by
 obtain⟨G,r,⟨c,l,mb,md,A,D,i,d,u⟩,a,z⟩:=Ss.cons.1 y;have k:∀{p:Pt} {b:Nat},i p b->¬r b:=λj=>z _ ((u _).2 ⟨_,j⟩);have ap:∀{p q:Pt} {b:Nat},p≠q->i p b->¬i q b:=λo hp t=>o (d.dj _ _ _ hp t);have f:∀{b:Nat},(∃n,True/\(lk A n).isSome=true/\i (.bk n) b)->∃n,i (.bk n) b:=λ⟨n,_,_,h⟩=>⟨n,h⟩
 have g:∀{b:Nat},(∃n,True/\aK (kQ D n) b)->∃n,i (.bd n) b:=λ⟨n,_,h⟩=>⟨n,(d.fbd n _).2 h⟩
 obtain⟨F,C,-⟩:=Qp (w:=w) (L:=L) [(Nr v c l mb md S.next,i .v),(nJ c S.cal,i .cal),(mi l S.led,i .led),(No mb A,i .mb),(Nq md D,i .md),(rG A S.bk,λb=>∃n,True/\(lk A n).isSome=true/\i (.bk n) b),(tU D S.bd,λb=>∃n,True/\aK (kQ D n) b)] (F2:=r) (by
   simp only[ar,fH,ml];rintro x (rfl|rfl|rfl|rfl|rfl|rfl|rfl)
   ·exact⟨d.blk,d.fv⟩
   ·exact d.cal
   ·exact d.led
   ·exact⟨d.mbk,d.fmb⟩
   ·exact⟨d.mbd,d.fmd⟩
   ·exact⟨λn=>i (.bk n),λn b _ e=>d.bk n b e,λn m x _ _ h1 a=>by simpa using d.dj _ _ _ h1 a,λ_=>aG⟩
   ·exact⟨λn _=>d.bd n,λn m x _ _ h1 a=>by simpa using d.dj _ _ _ ((d.fbd n x).2 h1) ((d.fbd m x).2 a),λ_=>aG⟩) (by
   simp only[bX,ar,fH,ml,forall_eq_or_imp,forall_eq,false_imp_iff,implies_true,List.Pairwise.nil,and_true]
   refine⟨⟨λb=>ap (by simp),λb=>ap (by simp),λb=>ap (by simp),λb=>ap (by simp),λb h1 a=>(f a).elim λ_ h=>ap (by simp) h1 h,λb h1 a=>(g a).elim λ_ h=>ap (by simp) h1 h⟩,
    ⟨λb=>ap (by simp),λb=>ap (by simp),λb=>ap (by simp),λb h1 a=>(f a).elim λ_ h=>ap (by simp) h1 h,λb h1 a=>(g a).elim λ_ h=>ap (by simp) h1 h⟩,
    ⟨λb=>ap (by simp),λb=>ap (by simp),λb h1 a=>(f a).elim λ_ h=>ap (by simp) h1 h,λb h1 a=>(g a).elim λ_ h=>ap (by simp) h1 h⟩,
    ⟨λb=>ap (by simp),λb h1 a=>(f a).elim λ_ h=>ap (by simp) h1 h,λb h1 a=>(g a).elim λ_ h=>ap (by simp) h1 h⟩,
    ⟨λb h1 a=>(f a).elim λ_ h=>ap (by simp) h1 h,λb h1 a=>(g a).elim λ_ h=>ap (by simp) h1 h⟩,
    λb h1 a=>(f h1).elim λ_ h=>(g a).elim λ_ s=>ap (by simp) h s⟩) a (by
   simp only[ar,fH,ml];rintro x (rfl|rfl|rfl|rfl|rfl|rfl|rfl) b j
   ·exact k j
   ·exact k j
   ·exact k j
   ·exact k j
   ·exact k j
   ·exact(f j).elim λ_ h=>k h
   ·exact(g j).elim λ_ h=>k h)
 exact(h c l mb md A D ⟨d.dom,d.dod,λn E=>(d.nbk n E).1⟩).go w ⟨F,C⟩⟩
set_option maxRecDepth 10000 in
def uQ{C:oe}{X:bE}{k:Int}(E:oB A D C.l bk)(h:Gs (tZ v ⟨C,X,bk,bd,k⟩::L) φ):Gs (vo v c l mb md A D C X bk bd k L) φ:=⟨λw y=>by
 obtain⟨F,z,G1,h1,⟨t,G2,h2,⟨F3,G3,h3,⟨o,G4,Q,⟨F5,Y,O,⟨F6,G6,⟨u,I⟩,⟨g,j,H,h8,V,J⟩,W,g6⟩,d5,g5⟩,d4,g4⟩,d3,g3⟩,d2,g2⟩,d1,g1⟩:=y
 let s:Pt->Nat->Prop:=λp=>match p with
  | .v=>z
  | .cal=>t
  | .led=>F3
  | .mb=>o
  | .md=>F5
  | .bk n=>λx=>(lk A n).isSome=true/\u n x
  | .bd n=>aK (kQ D n)
 have R:∀{n:Int} {x:Nat},(lk A n).isSome=true/\u n x->F6 x:=λh=>(I.f _).2 ⟨_,trivial,h⟩;have N:∀{n:Int} {x:Nat},aK (kQ D n) x->g x:=λh=>(H.f _).2 ⟨_,trivial,h⟩;have K:∀{x:Nat},F6 x\/g x\/j x->Y x:=λh=>(g6 _).2 (h.imp id (J _).2);have P:∀{x:Nat},F5 x\/F6 x\/g x\/j x->G4 x:=λh=>(g5 _).2 (h.imp id K);have T:∀{x:Nat},o x\/F5 x\/F6 x\/g x\/j x->G3 x:=λh=>(g4 _).2 (h.imp id P);have U:∀{x:Nat},F3 x\/o x\/F5 x\/F6 x\/g x\/j x->G2 x:=λh=>(g3 _).2 (h.imp id T);have e2:∀{x:Nat},t x\/F3 x\/o x\/F5 x\/F6 x\/g x\/j x->G1 x:=λh=>(g2 _).2 (h.imp id U)
 have key:∀p x,s p x->(z x\/t x\/F3 x\/o x\/F5 x\/F6 x\/g x):=λp x d=>by
  cases p with
  |v=>exact .inl d
  |cal=>exact .inr (.inl d)
  |led=>exact .inr (.inr (.inl d))
  |mb=>exact .inr (.inr (.inr (.inl d)))
  |md=>exact .inr (.inr (.inr (.inr (.inl d))))
  |bk n=>exact .inr (.inr (.inr (.inr (.inr (.inl (R d))))))
  |bd n=>exact .inr (.inr (.inr (.inr (.inr (.inr (N d))))))
 have no:∀x,(z x->¬(t x\/F3 x\/o x\/F5 x\/F6 x\/g x\/j x))/\(t x->¬(F3 x\/o x\/F5 x\/F6 x\/g x\/j x))/\(F3 x->¬(o x\/F5 x\/F6 x\/g x\/j x))/\(o x->¬(F5 x\/F6 x\/g x\/j x))/\(F5 x->¬(F6 x\/g x\/j x))/\(F6 x->¬(g x\/j x))/\(g x->¬j x):=λx=>
  ⟨λh i=>d1 x h (e2 i),λh i=>d2 x h (U i),λh i=>d3 x h (T i),λh i=>d4 x h (P i),λh i=>d5 x h (K i),λh i=>W x h ((J x).2 i),λh i=>V x h i⟩
 let f:Pt->Nat:=λp=>match p with
  | .v=>0| .cal=>1| .led=>2| .mb=>3| .md=>4| .bk _=>5| .bd _=>6
 have at_:∀p x,s p x->(f p=0/\z x)\/(f p=1/\t x)\/(f p=2/\F3 x)\/(f p=3/\o x)\/(f p=4/\F5 x)\/(f p=5/\F6 x)\/(f p=6/\g x):=λp x d=>by
  cases p with
  |v=>exact .inl ⟨rfl,d⟩
  |cal=>exact .inr (.inl ⟨rfl,d⟩)
  |led=>exact .inr (.inr (.inl ⟨rfl,d⟩))
  |mb=>exact .inr (.inr (.inr (.inl ⟨rfl,d⟩)))
  |md=>exact .inr (.inr (.inr (.inr (.inl ⟨rfl,d⟩))))
  |bk n=>exact .inr (.inr (.inr (.inr (.inr (.inl ⟨rfl,R d⟩)))))
  |bd n=>exact .inr (.inr (.inr (.inr (.inr (.inr ⟨rfl,N d⟩)))))
 have dj:∀p q x,s p x->s q x->p=q:=λp q x hp G=>by
  have hi:f p=f q:=by
   have hn:=no x;have a:=at_ p x hp;have b:=at_ q x G;grind
  cases p<;>cases q<;>first|rfl|cases hi|skip
  ·rename_i n m
   rw[I.dj n m x trivial trivial hp.2 G.2]
  ·rename_i n m
   rw[H.dj n m x trivial trivial hp G]
 refine h.go w (Ss.cons.2 ⟨λx=>∃p,s p x,j,⟨c,l,mb,md,A,D,s,⟨⟨h1.1,h2,h3,Q.1,O.1,λn b e=>?_,λn e=>⟨E.nbk n e,λx d=>?_⟩,λn=>H.q n trivial,h1.2,Q.2,O.2,λn x=>aG,dj⟩,E.dom,E.dod⟩,λ_=>aG⟩,h8,λx ⟨p,d⟩ r=>?_⟩)
 ·have:=I.q n b trivial e
  have e' :(λx=>(lk A n).isSome=true/\u n x)=u n:=by
   funext x;rw[e];simp
  show fU w b (λx=>(lk A n).isSome=true/\u n x) _;rw[e'];exact this
 ·have:=d.1;rw[e]at this;cases this
 ·obtain⟨n1,n2,n3,n4,n5,n6,Z⟩:=no x;rcases key p x d with k|k|k|k|k|k|k
  ·exact n1 k (.inr (.inr (.inr (.inr (.inr (.inr r))))))
  ·exact n2 k (.inr (.inr (.inr (.inr (.inr r)))))
  ·exact n3 k (.inr (.inr (.inr (.inr r))))
  ·exact n4 k (.inr (.inr (.inr r)))
  ·exact n5 k (.inr (.inr r))
  ·exact n6 k (.inr r)
  ·exact Z k r⟩
end
def Gs.ak{L:List As}{N R:WP}{X:Nat->WP}(h:Gs L N):Gs L (jx N R X none):=⟨λw x=>h.go w x⟩
def Gs.akr{L:List As}{N R:WP}{X:Nat->WP}(h:Gs L R):Gs L (jx N R X (some .ret)):=⟨λw x=>h.go w x⟩
structure Gg(gv:Vt_)(xs:List (List Value))(L:List As)(φ:WP):Prop where
 go:∀w,Ss w L->oM gv xs w->φ w
def Ns(d:Nat):As:=⟨λw F=>hp w d=some (.deferred (some []))/\∀x,F x↔x=d,λh hb=>by rw[(h.2 _).1 hb];exact ay h.1,λh m hg=>⟨m.keep h.1 (hg d ((h.2 d).2 rfl)),h.2⟩⟩
def wP(d:Nat)(r:Loop):As:=⟨λw F=>hp w d=some (.loop r)/\∀x,F x↔x=d,λh hb=>by rw[(h.2 _).1 hb];exact ay h.1,λh m hg=>⟨m.keep h.1 (hg d ((h.2 d).2 rfl)),h.2⟩⟩
section
variable{L L0 M:List As}{w:Wt_}{k0:WP}
def Gs.tw{d:Nat}(h:Gs L k0)(p:dV L0 (Ns d::L):=by repeat first|(with_reducible exact eg)|(with_reducible apply ee)):Gs L0 (Tw [d] k0):=⟨λw ⟨F,x⟩=>by
 obtain⟨j,f,h1,a,g,i⟩:=(p.out w F).1 x;refine⟨h1.1,h.go _ ⟨f,a.md ((aS.refl (λy=>y=d) w).putObj (b:=d) (.inl rfl) _) λb c e=>g b ((h1.2 b).2 e) c⟩⟩⟩
def Gs.twc{d:Nat}{ds:List Nat}(h:Gs L (Tw ds k0))(p:dV L0 (Ns d::L):=by repeat first|(with_reducible exact eg)|(with_reducible apply ee)):Gs L0 (Tw (d::ds) k0):=⟨λw ⟨F,x⟩=>by
 obtain⟨j,f,h1,a,g,i⟩:=(p.out w F).1 x;exact⟨h1.1,h.go _ ⟨f,a.md ((aS.refl (λy=>y=d) w).putObj (b:=d) (.inl rfl) _) λb c e=>g b ((h1.2 b).2 e) c⟩⟩⟩
def qG:∀{L M:List As} {F:NP_},tL w (L++M) F->∃c d,tL w L c/\tL w M d/\(∀b,c b->¬d b)/\∀b,F b↔c b\/d b
 | [],M,F,h=>⟨λ_=>False,F,λ_ h=>h,h,λ_ h=>h.elim,λb=>⟨.inr,λh=>h.elim False.elim id⟩⟩
 |A::L,M,F,⟨c,d,h1,g,f,j⟩=>by
  obtain⟨F3,i,k1,k2,k3,k4⟩:=qG g;refine⟨λb=>c b\/F3 b,i,⟨c,F3,h1,k1,λb a e=>f b a ((k4 b).2 (.inl e)),λ_=>aG⟩,k2,λb a e=>?_,λb=>?_⟩
  ·rcases a with a|a
   ·exact f b a ((k4 b).2 (.inr e))
   ·exact k3 b a e
  ·rw[j,k4,or_assoc]
def sY:∀{L M:List As} {a F2:NP_},tL w L a->tL w M F2->(∀b,a b->¬F2 b)->∃F,tL w (L++M) F/\∀b,F b↔a b\/F2 b
 | [],M,a,F2,h1,e,_=>⟨F2,e,λb=>⟨.inr,λh=>h.elim (λh=>(h1 b h).elim) id⟩⟩
 |A::L,M,a,F2,⟨F3,j,k1,k2,k3,k4⟩,e,f=>by
  obtain⟨F,i,g⟩:=sY k2 e λb d=>f b ((k4 b).2 (.inr d));refine⟨_,⟨F3,F,k1,i,λb d c=>?_,λ_=>aG⟩,λb=>?_⟩
  ·rcases(g b).1 c with c|c
   ·exact k3 b d c
   ·exact f b ((k4 b).2 (.inl d)) c
  ·rw[g,k4,or_assoc]
def JP{A:List As}{W d:Wt_}{X:NP_}{l q:Nat}{r:Loop}{cs:LV_}{T:TypeId}(B:hp W l=some (.loop r))(h:Ss d (pt q cs T::(A++wP l r::CA W (λy=>X y\/y=l\/y=q)::[]))):
  ∃o,tL d A o/\aS (λy=>X y\/y=q) W d/\hp d q=some (.cells cs.toArray T (0,0))/\∀b,o b->(X b\/W.heap.size<=b)/\b<d.heap.size:=by
 obtain⟨F,K,FR,⟨H,I⟩,x,v,O⟩:=h;obtain⟨C,t,h1,⟨F3,J,⟨D,k⟩,⟨F5,F6,⟨u,m⟩,G,N,z⟩,P,i⟩,f,j⟩:=qG x
 have p:∀b,t b↔b=l\/(b<W.heap.size/\¬(X b\/b=l\/b=q)):=λb=>by
  rw[i,k,z,u];constructor
  ·rintro(h|h|h)
   ·exact .inl h
   ·exact .inr h
   ·exact absurd h (G b)
  ·rintro(h|h)
   ·exact .inl h
   ·exact .inr (.inl h)
 refine⟨C,h1,⟨m.size,m.out,m.os,λb c n=>?_⟩,H,λb c=>⟨aI λs=>?_,h1.lt c⟩⟩
 ·by_cases a:b=l
  ·subst a;exact D.trans B.symm
  ·exact m.blk b c λE=>E.elim (λh=>n (.inl h)) λh=>h.elim a λh=>n (.inr h)
 ·have a:b≠l:=λe=>f b c ((p b).2 (.inl e));have g:b≠q:=λe=>v b ((I b).2 e) ((j b).2 (.inl c));refine f b c ((p b).2 (.inr ⟨aI λn=>s (.inr qZ),?_⟩));rintro(h|h|h)
  ·exact s (.inl h)
  ·exact a h
  ·exact g h
def U6{A:List As}{W:Wt_}{X:NP_}{l q:Nat}{r:Loop}{cs:LV_}{T:TypeId}(g:hp W l=some (.loop r))(f:hp W q=some (.cells cs.toArray T (0,0)))(h:tL W A X)(h1:¬X l)(d:¬X q)(i:q≠l):
  Ss W (pt q cs T::(A++wP l r::CA W (λy=>X y\/y=l\/y=q)::[])):=by
 have s:tL W (wP l r::CA W (λy=>X y\/y=l\/y=q)::[]) (λb=>b=l\/(b<W.heap.size/\¬(X b\/b=l\/b=q))):=
  ⟨λb=>b=l,_,⟨g,λ_=>aG⟩,⟨_,λ_=>False,⟨λ_=>aG,aS.refl _ _⟩,λ_ h=>h,dS,λb=>(or_iff_left id).symm⟩,λb c a=>a.2 (.inr (.inl c)),λ_=>aG⟩
 obtain⟨F,k1,k2⟩:=sY h s λb c a=>a.elim (λe=>h1 (e▸c)) λa=>a.2 (.inl c);refine Ss.cons.2 ⟨λy=>y=q,F,⟨f,λ_=>aG⟩,k1,λb c a=>?_⟩;subst c;rcases(k2 b).1 a with h|h|h
 ·exact d h
 ·exact i h
 ·exact h.2 (.inr (.inr rfl))
end
section
variable{gv:Vt_}{α β γ:Type}{xs:List α}{fv:α->Value}{fc:α->List Value}{T:TypeId}{L L0:List As}{rnd:Nat->List Value->WP->(Code->WP)->WP}{asg:Value->(Value->WP)->WP}{body:Nat->Value->WP->(Code->WP)->WP}{after:List Nat->Option Code->WP}
def Z7(T:TypeId)(fv:α->Value)(fc:α->List Value)(xs:List α)(asg:Value->(Value->WP)->WP):Prop:=
 ∀a∈xs,∀(W:Wt_) (k:Value->WP),(∀w2,hp w2 W.heap.size=some (.cells (fc a).toArray T (0,0))->M0 W w2->k (bO W.heap.size 0) w2)->asg (fv a) k W
def Gg.rf(hR:∀l x j f,rnd l x j f=asg (x.getD 0 undef) λv=>Gw l (body l v j f))(Q:Z7 T fv fc xs asg)
  (I:Nat->β->List As->List As)(E:γ->List As->List As)(V:∀i b M,I i b M=I i b []++M)(hE:∀g M,E g M=E g []++M)(p:Nat->β->Prop)(pe:Code->γ->Prop)(Z:β)(h0:p 0 Z)
  (u:∀i (hi:i<xs.length) b,p i b->∀l r q M j f,(∀S cs,p (i+1) S->Gs (pt q cs T::I (i+1) S (wP l r::M)) j)->(∀c g cs,pe c g->Gs (pt q cs T::E g (wP l r::M)) (f c))->Gs (pt q (fc xs[i]) T::I i b (wP l r::M)) (body l (bO q 0) j f))
  (O:∀b d,p xs.length b->Gs (Ns d::I xs.length b L) (after [d] none))(C:∀c g d,pe c g->Gs (Ns d::E g L) (after [d] (some c)))
  (hp_:dV L0 (I 0 Z L):=by repeat first|(with_reducible exact dV.refl)|((apply nL);(·repeat first|(with_reducible exact eg)|(with_reducible apply ee)))):Gg gv (xs.map λa=>[fv a]) L0 (Rw pQ none gv 1 rnd after):=⟨λw y ht=>by
 obtain⟨F,z⟩:=y;have z:=(hp_.out w F).1 z;rw[V]at z;obtain⟨U,FL,s1,s2,s3,s4⟩:=qG z;show Et pQ none gv w 1 _ after
 have e:(λl x w j f=>rnd l x j f w)=(λ(l:Nat) (x:LV_) (W:Wt_) (KN:World->Prop) (KJ:Code->World->Prop)=>(λ(x:Vt_) (W:Wt_) (K:Value->World->Prop)=>asg x K W) (x.getD 0 undef) W λv w2=>pP l w2 λw3=>(λl v W j f=>body l v j f W) l v w3 KN KJ):=by
  funext l x w j f;rw[hR];rfl
 rw[e]
 have t:∀{A:List As} {X:NP_} {W:Wt_} {d:Nat},tL W A X->aS U w W->hp W d=some (.deferred (some []))->(∀b,X b->b<W.heap.size/\(U b\/d+1<b))->d=w.heap.size->Ss W (Ns d::(A++L)):=λ{A X W d} h m P o hdd=>by
  have k2:=s2.md m λb n D=>s3 b D n
  obtain⟨F',k3,k4⟩:=sY h k2 λb n D=>by
   rcases(o b n).2 with s|s
   ·exact s3 b s D
   ·have:=s2.lt D;omega
  refine Ss.cons.2 ⟨λy=>y=d,F',⟨P,λ_=>aG⟩,k3,λb n D=>?_⟩;subst n;rcases(k4 b).1 D with s|s
  ·rcases(o b s).2 with G|G
   ·have:=s1.lt G;omega
   ·omega
  ·have:=s2.lt s;omega
 refine Jg (asg:=λ(x:Vt_) (W:Wt_) (K:Value->World->Prop)=>asg x K W) (body:=λl v W j f=>body l v j f W) (Pv:=λa v q W=>v=.pointer (some ⟨q,0,none⟩)/\hp W q=some (.cells (fc a).toArray T (0,0))) ht (λa ha W K hK=>Q a ha W K λw2 h1 N=>hK w2 _ ⟨rfl,h1⟩ N) (λa v q W k H h m R=>⟨h.1,m.keep h.2 R⟩)
  (λX i W=>∃b,p i b/\tL W (I i b []) X) (λc X W=>∃g,pe c g/\tL W (E g []) X) (λX i W k H ⟨b,h1,N⟩ m R=>⟨b,h1,N.md m R⟩) (λc X W k H ⟨g,h1,N⟩ m R=>⟨g,h1,N.md m R⟩) (X0:=U) (λb n=>s1.lt n) ⟨Z,h0,s1⟩ ?_ ?_ ?_
 ·rintro X i hi W q v ⟨b,n,J⟩ m o hq1 hq2 ⟨rfl,hq⟩ ⟨r,Y⟩ KN KJ hKN hKJ;obtain⟨l,hl⟩:=df (w.heap.size+1);rw[<-hl]at o hq1 Y|-;have hqX:¬X q:=λh=>by have:=(o q h).1;omega
  have hlX:¬X l:=λh=>by
   rcases(o l h).2 with s|s
   ·have:=s1.lt s;omega
   ·omega
  have hu:∀(B:NP_) (k:Wt_),aS (λy=>X y\/y=q) W k->aS (λb=>X b\/q<=b) W k:=λB k m=>m.mono λb _ h=>h.imp id λe=>by omega
  refine(u i hi b n l r q [CA W (λy=>X y\/y=l\/y=q)] KN KJ (λS cs hb' =>⟨λk h=>?_⟩) λc g cs hg=>⟨λk h=>?_⟩).go W ?_
  ·rw[V]at h;obtain⟨B,k1,k2,k3,k4⟩:=JP Y h;exact hKN B k ⟨S,hb',k1⟩ (hu B k k2) k4
  ·rw[hE]at h;obtain⟨B,k1,k2,k3,k4⟩:=JP Y h;exact hKJ c B k ⟨g,hg,k1⟩ (hu B k k2) k4
  ·rw[V];exact U6 Y hq J hlX hqX qZ
 ·rintro X W d rfl ⟨b,n,J⟩ m P o;have:=(O b w.heap.size n).go W;rw[V]at this;exact this (t J m P o rfl)
 ·rintro c X W d rfl ⟨g,hg,J⟩ m P o;have:=(C c g w.heap.size hg).go W;rw[hE]at this;exact this (t J m P o rfl)⟩
def Ge{A:List As}{W d:Wt_}{X:NP_}{q:Nat}{cs:LV_}{T:TypeId}(n:hp W q=some (.cells cs.toArray T (0,0)))(h:Ss d (pt q cs T::(A++CA W (λy=>X y\/y=q)::[]))):
  ∃i,tL d A i/\aS X W d/\∀b,i b->(X b\/W.heap.size<=b)/\b<d.heap.size:=by
 obtain⟨F,B,FR,⟨v,z⟩,x,p,D⟩:=h;obtain⟨t,l,h1,⟨F5,F6,⟨o,m⟩,E,C,s⟩,g,f⟩:=qG x;have r:∀b,b<W.heap.size/\¬(X b\/b=q)->l b:=λb c=>(s b).2 (.inl ((o b).2 c));refine⟨t,h1,⟨m.size,m.out,m.os,λb c j=>?_⟩,λb c=>⟨aI λk=>?_,h1.lt c⟩⟩
 ·by_cases a:b=q
  ·subst a;exact v.trans n.symm
  ·exact m.blk b c λu=>u.elim j a
 ·have a:b≠q:=λe=>p b ((z b).2 e) ((f b).2 (.inl c));exact g b c (r b ⟨aI λj=>k (.inr qZ),λh=>h.elim (λh=>k (.inl h)) a⟩)
def Gg.rn{l0:Nat}{r0:Loop}(hR:∀l x j f,rnd l x j f=asg (x.getD 0 undef) λv=>Gw l (body l v j f))(J:Z7 T fv fc xs asg)
  (I:Nat->β->List As->List As)(E:γ->List As->List As)(Q:∀i b M,I i b M=I i b []++M)(hE:∀g M,E g M=E g []++M)(p:Nat->β->Prop)(pe:Code->γ->Prop)(R:β)(h0:p 0 R)
  (r:∀i (hi:i<xs.length) b,p i b->∀l q M j f,(∀O,p (i+1) O->Gs (pt q (fc xs[i]) T::I (i+1) O M) j)->(∀c g,pe c g->Gs (pt q (fc xs[i]) T::E g M) (f c))->Gs (pt q (fc xs[i]) T::I i b M) (body l (bO q 0) j f))
  (D:∀b,p xs.length b->Gs (I xs.length b (wP l0 r0::L)) (after [] none))(t:∀c g,pe c g->Gs (E g (wP l0 r0::L)) (after [] (some c)))
  (S:dV L0 (I 0 R (wP l0 r0::L)):=by repeat first|(with_reducible exact dV.refl)|((apply nL);(·repeat first|(with_reducible exact eg)|(with_reducible apply ee)))):Gg gv (xs.map λa=>[fv a]) L0 (Rw pQ (some l0) gv 1 rnd after):=⟨λw y ht=>by
 obtain⟨F,z⟩:=y;have z:=(S.out w F).1 z;rw[Q]at z;obtain⟨G,FL,s1,P,s3,s4⟩:=qG z;obtain⟨-,-,⟨hr0,-⟩,-⟩:=P;obtain⟨G,FL,s1,P,s3,s4⟩:=qG z;show Et pQ (some l0) gv w 1 _ after
 have e:(λl x w j f=>rnd l x j f w)=(λ(l:Nat) (x:LV_) (W:Wt_) (V:World->Prop) (KJ:Code->World->Prop)=>(λ(x:Vt_) (W:Wt_) (K:Value->World->Prop)=>asg x K W) (x.getD 0 undef) W λv w2=>pP l w2 λw3=>(λl v W j f=>body l v j f W) l v w3 V KJ):=by
  funext l x w j f;rw[hR];rfl
 rw[e]
 have n:∀{A:List As} {X:NP_} {W:Wt_},tL W A X->aS G w W->(∀b,X b->b<W.heap.size/\(G b\/w.heap.size<b))->Ss W (A++wP l0 r0::L):=λ{A X W} h m o=>by
  have k2:=P.md m λb d k=>s3 b k d
  obtain⟨F',k3,k4⟩:=sY h k2 λb d k=>by
   rcases(o b d).2 with h' |h'
   ·exact s3 b h' k
   ·have:=P.lt k;omega
  exact⟨F',k3⟩
 refine JR (asg:=λ(x:Vt_) (W:Wt_) (K:Value->World->Prop)=>asg x K W) (body:=λl v W j f=>body l v j f W) (Pv:=λa v q W=>v=.pointer (some ⟨q,0,none⟩)/\hp W q=some (.cells (fc a).toArray T (0,0))) ⟨r0,hr0⟩ ht (λa ha W K hK=>J a ha W K λw2 h1 C=>hK w2 _ ⟨rfl,h1⟩ C) (λa v q W u H h m N=>⟨h.1,m.keep h.2 N⟩)
  (λX i W=>∃b,p i b/\tL W (I i b []) X) (λc X W=>∃g,pe c g/\tL W (E g []) X) (λX i W u H ⟨b,h1,C⟩ m N=>⟨b,h1,C.md m N⟩) (λc X W u H ⟨g,h1,C⟩ m N=>⟨g,h1,C.md m N⟩) (X0:=G) (λb d=>s1.lt d) ⟨R,h0,s1⟩ ?_ ?_ ?_
 ·rintro X i hi W q v ⟨b,d,B⟩ m o hq1 hq2 ⟨rfl,hq⟩ V KJ Z hKJ;have U:¬X q:=λh=>by have:=(o q h).1;omega
  refine(r i hi b d w.heap.size q [CA W (λy=>X y\/y=q)] V KJ (λO hb' =>⟨λu h=>?_⟩) λc g Y=>⟨λu h=>?_⟩).go W ?_
  ·rw[Q]at h;obtain⟨X',k1,k2,k4⟩:=Ge hq h;exact Z X' u ⟨O,hb',k1⟩ k2 k4
  ·rw[hE]at h;obtain⟨X',k1,k2,k4⟩:=Ge hq h;exact hKJ c X' u ⟨g,Y,k1⟩ k2 k4
  ·rw[Q];have s:tL W (CA W (λy=>X y\/y=q)::[]) (λb=>b<W.heap.size/\¬(X b\/b=q)):=⟨_,λ_=>False,⟨λ_=>aG,aS.refl _ _⟩,λ_ h=>h,dS,λb=>(or_iff_left id).symm⟩
   obtain⟨F',k1,k2⟩:=sY B s λb d k=>k.2 (.inl d);refine Ss.cons.2 ⟨λy=>y=q,F',⟨hq,λ_=>aG⟩,k1,λb d k=>?_⟩;subst d;rcases(k2 b).1 k with h|h
   ·exact U h
   ·exact h.2 (.inr rfl)
 ·rintro X W ⟨b,d,B⟩ m o;have:=(D b d).go W;rw[Q]at this;exact this (n B m o)
 ·rintro c X W ⟨g,Y,B⟩ m o;have:=(t c g Y).go W;rw[hE]at this;exact this (n B m o)⟩
def P2{A:List As}{W a:Wt_}{X:NP_}(h:Ss a (A++CA W X::[])):∃d,tL a A d/\aS X W a/\∀b,d b->(X b\/W.heap.size<=b)/\b<a.heap.size:=by
 obtain⟨F,x⟩:=h;obtain⟨k,l,h1,⟨F5,F6,⟨i,m⟩,p,n,j⟩,c,g⟩:=qG x;exact⟨k,h1,m,λb e=>⟨aI λf=>c b e ((j b).2 (.inl ((i b).2 ⟨aI λo=>f (.inr qZ),λh=>f (.inl h)⟩))),h1.lt e⟩⟩
def Gg.r0{l0:Nat}{r0:Loop}{bd:Nat->WP->(Code->WP)->WP}(hR:∀l x c f,rnd l x c f=Gw l (bd l c f))
  (I:Nat->β->List As->List As)(r:∀i b M,I i b M=I i b []++M)(p:Nat->β->Prop)(t:β)(h0:p 0 t)
  (g:∀i,i<xs.length->∀b,p i b->∀l M c f,(∀n,p (i+1) n->Gs (I (i+1) n M) c)->Gs (I i b M) (bd l c f))
  (k:∀b,p xs.length b->Gs (I xs.length b (wP l0 r0::L)) (after [] none))
  (u:dV L0 (I 0 t (wP l0 r0::L)):=by repeat first|(with_reducible exact dV.refl)|((apply nL);(·repeat first|(with_reducible exact eg)|(with_reducible apply ee)))):Gg gv (xs.map λa=>[fv a]) L0 (Rw pQ (some l0) gv 1 rnd after):=⟨λw y U=>by
 obtain⟨F,z⟩:=y;have z:=(u.out w F).1 z;rw[r]at z;obtain⟨J,S,s1,o,N,Z⟩:=qG z;obtain⟨-,-,⟨G,-⟩,-⟩:=o;obtain⟨J,S,s1,o,N,Z⟩:=qG z;show Et pQ (some l0) gv w 1 _ after
 have e:(λl x w c f=>rnd l x c f w)=(λ(l:Nat) (x:LV_) (W:Wt_) (A:World->Prop) (E:Code->World->Prop)=>(λ(x:Vt_) (W:Wt_) (K:Value->World->Prop)=>K x W) (x.getD 0 undef) W λv w2=>pP l w2 λV=>(λl v W c f=>bd l c f W) l v V A E):=by
  funext l x w c f;rw[hR];rfl
 rw[e]
 refine JR (asg:=λ(x:Vt_) (W:Wt_) (K:Value->World->Prop)=>K x W) (body:=λl v W c f=>bd l c f W) (Pv:=λ_ _ _ _=>True) ⟨r0,G⟩ U (λa ha W K hK=>hK W _ trivial (aS.refl _ W)) (λ_ _ _ _ _ _ _ _ _=>trivial)
  (λX i W=>∃b,p i b/\tL W (I i b []) X) (λ_ _ _=>False) (λX i W R H ⟨b,h1,h2⟩ m hn=>⟨b,h1,h2.md m hn⟩) (λ_ _ _ _ _ h=>h.elim) (X0:=J) (λb d=>s1.lt d) ⟨t,h0,s1⟩ ?_ ?_ (λ_ _ _ h=>h.elim)
 ·rintro X i hi W q v ⟨b,d,C⟩ m P hq1 Y - A E B hKJ;refine(g i hi b d w.heap.size [CA W X] A E (λn D=>⟨λR h=>?_⟩)).go W ?_
  ·rw[r]at h;obtain⟨X',k1,k2,k4⟩:=P2 h;exact B X' R ⟨n,D,k1⟩ k2 k4
  ·rw[r];have s:tL W (CA W X::[]) (λb=>b<W.heap.size/\¬X b):=⟨_,λ_=>False,⟨λ_=>aG,aS.refl _ _⟩,λ_ h=>h,dS,λb=>(or_iff_left id).symm⟩
   obtain⟨O,k1,-⟩:=sY C s λb d j=>j.2 d;exact⟨O,k1⟩
 ·rintro X W ⟨b,d,C⟩ m P;have:=(k b d).go W;rw[r]at this;have k2:=o.md m λb d j=>N b j d
  obtain⟨O,k3,-⟩:=sY C k2 λb d j=>by
   rcases(P b d).2 with Q|Q
   ·exact N b Q j
   ·have:=o.lt j;omega
  exact this ⟨O,k3⟩⟩
end
section
variable{P:Program}{A B:As}{L M:List As}{k:Value->WP}{v:Vt_}{φ:(Value->WP)->WP}
def Gs.rd1(f:∀w F,Ss w L->A.P w F->∀K:aY,(∀d,M0 w d->K v d)->φ K w)(e:Gs L (k v))(p:dV L (A::M)):Gs L (φ k):=
 ⟨λw y=>(jF p y).elim λF q=>f w F y q k λd m=>e.go d (y.md0 m)⟩
def Gs.up1(i:∀w F,A.P w F->∀K:aY,(∀d,B.P d F->aS F w d->K v d)->φ K w)(e:Gs (B::M) (k v))(p:dV L (A::M)):Gs L (φ k):=
 Gs.old (A:=A) (val:=λ_:Unit=>v) (p:=λ_=>True) (B:=λ_=>B) (λw F _ j K f=>i w F j K λd g m=>f () d F trivial g m λy h=>.inl h) (λ_ _=>e) p
end
section
variable{L M:List As}{k:Value->WP}{c l b:Nat}{C:oe}{X:bE}{B:Bk}{n a m price:Int}
def rq(d:Gs L (k (.tuple #[kx (X.getV n).1,gI (X.getV n).2])))(p:dV L (mi l X::M):=by repeat first|(with_reducible exact eg)|(with_reducible apply ee)):Gs L (Cw pQ 56 #[eu l,gU n] k):=Gs.rd1 (λw F _ q K h=>Dv q h) d p
def rJ(d:Gs L (k (ox (X.position n a))))(p:dV L (mi l X::M):=by repeat first|(with_reducible exact eg)|(with_reducible apply ee)):Gs L (Cw pQ 222 #[eu l,gU n,gU a] k):=Gs.rd1 (λw F _ q K h=>ug q h) d p
def Dt{a:Ac}(e:0<=a.num/\a.num<4294967296)(d:Gs (mi l (X.set a).2::M) (k (gI (X.set a).1)))(p:dV L (mi l X::M):=by repeat first|(with_reducible exact eg)|(with_reducible apply ee)):Gs L (Cw pQ 145 #[eu l,kx a] k):=Gs.up1 (λw F q K h=>VZ q e h) d p
def Iz(e:0<=n/\n<4294967296)(d:Gs (mi l (X.deposit n m).2::M) (k (gI (X.deposit n m).1)))(p:dV L (mi l X::M):=by repeat first|(with_reducible exact eg)|(with_reducible apply ee)):Gs L (Cw pQ 132 #[eu l,gU n,gI m] k):=Gs.up1 (λw F q K h=>IX q e h) d p
def GR(e:0<=n/\n<4294967296)(d:Gs (mi l (X.withdraw n m).2::M) (k (gI (X.withdraw n m).1)))(p:dV L (mi l X::M):=by repeat first|(with_reducible exact eg)|(with_reducible apply ee)):Gs L (Cw pQ 199 #[eu l,gU n,gI m] k):=Gs.up1 (λw F q K h=>EF q e h) d p
def GZ{c b s d x:Int}(f:0<=c/\c<4294967296)(e:Gs (mi l (X.trade c b s d x).2::M) (k (gI (X.trade c b s d x).1)))(p:dV L (mi l X::M):=by repeat first|(with_reducible exact eg)|(with_reducible apply ee)):Gs L (Cw pQ 273 #[eu l,gU c,gU b,gU s,gI d,gI x] k):=Gs.up1 (λw F q K h=>Rh q f h) e p
def zm(d:Gs L (k (.tuple #[.agg (dD (dI C.l n).1).toArray,gI (dI C.l n).2])))(p:dV L (nJ c C::M):=by repeat first|(with_reducible exact eg)|(with_reducible apply ee)):Gs L (Cw pQ 143 #[fF c,gU n] k):=Gs.rd1 (λw F _ q K h=>Km q h) d p
def Rl(d:Gs (nJ c (eS C).2::M) (k (gI (eS C).1)))(p:dV L (nJ c C::M):=by repeat first|(with_reducible exact eg)|(with_reducible apply ee)):Gs L (Cw pQ 204 #[fF c] k):=Gs.up1 (λw F q K h=>NG q h) d p
def O9{on:Bool}(d:Gs (nJ c (jy C n on).2::M) (k (gI (jy C n on).1)))(p:dV L (nJ c C::M):=by repeat first|(with_reducible exact eg)|(with_reducible apply ee)):Gs L (Cw pQ 135 #[fF c,gU n,.bool on] k):=Gs.up1 (λw F q K h=>Ph q h) d p
def Fj(d:Gs (nJ c (fJ C n price).2::M) (k (gI (fJ C n price).1)))(p:dV L (nJ c C::M):=by repeat first|(with_reducible exact eg)|(with_reducible apply ee)):Gs L (Cw pQ 136 #[fF c,gU n,gI price] k):=Gs.up1 (λw F q K h=>EK q h) d p
def IW(d:Gs (nJ c (fq C n).2::M) (k (gI (fq C n).1)))(p:dV L (nJ c C::M):=by repeat first|(with_reducible exact eg)|(with_reducible apply ee)):Gs L (Cw pQ 209 #[fF c,gU n] k):=Gs.up1 (λw F q K h=>IY q h) d p
def EB(e:Gs (Bq b (fh B n).2.1::M) (k (.tuple #[jQ (fh B n).2.2,gI (fh B n).1])))(p:dV L (Bq b B::M):=by repeat first|(with_reducible exact eg)|(with_reducible apply ee)):Gs L (Cw pQ 212 #[fa b,gQ n] k):=
 Gs.old (A:=Bq b B) (val:=λ_:Unit=>_) (p:=λ_=>True) (B:=λ_=>Bq b (fh B n).2.1) (λw F _ q K h=>wh q λf g i j d=>h () g f trivial i j d) (λ_ _=>e) p
def Ra{g:Gt}(d:g.Fit)(e:Gs L (k (gI g.check))):Gs L (Cw pQ 271 #[.agg (x9 g).toArray] k):=⟨λw y=>Pn d λf m=>e.go f (y.md0 m)⟩
def Kw(i:∀x y,Gs (Bq b (iK B a).1::lX (.slice x (iK B a).2.length y) (iK B a).2::M) (k (.slice x (iK B a).2.length y)))(p:dV L (Bq b B::M):=by repeat first|(with_reducible exact eg)|(with_reducible apply ee)):Gs L (Cw pQ 210 #[fa b,gU a] k):=
 Gs.old (A:=Bq b B) (val:=λx:Option Addr×Nat=>.slice x.1 (iK B a).2.length x.2) (p:=λ_=>True) (B:=λx=>(Bq b (iK B a).1).mul (lX (.slice x.1 (iK B a).2.length x.2) (iK B a).2)) (λw F _ q K h=>Sn q λe sl g r o j f nn=>by
  obtain⟨x,y,rfl,-⟩:=o.isSl;exact h (x,y) g (λy=>e y\/aK _ y) trivial ⟨e,aK _,r,⟨o,λ_=>aG⟩,λy d s=>(nn y s).2 d,λ_=>aG⟩ j λy d=>d.elim (f y) λh=>.inr (nn y h).1) (λx _=>(i x.1 x.2).pk Nx) p
def zp(f:∀d,Gg d (C.l.map λk=>[.agg (dD k).toArray]) L (k d))(p:dV L (nJ c C::M):=by repeat first|(with_reducible exact eg)|(with_reducible apply ee)):Gs L (Cw pQ 51 #[fF c] k):=⟨λw y=>(jF p y).elim λF q=>Dn q λd e t m=>(f d).go e (y.md0 m) t⟩
def TI{A:List (Int×Nat)}{bk:Int->Bk}(f:lk A n=some b)(g:∀d,Gg d ((bk n).all.map λo=>[jQ o]) L (k d))(p:dV L (rG A bk::M):=by repeat first|(with_reducible exact eg)|(with_reducible apply ee)):Gs L (Cw pQ 61 #[fa b] k):=⟨λw y=>(jF p y).elim λF ⟨h,q⟩=>zt (q.q n b trivial f) λd e t m=>(g d).go e (y.md0 m) t⟩
def yn(f:∀d,Gg d (X.all.map λa=>[kx a]) L (k d))(p:dV L (mi l X::M):=by repeat first|(with_reducible exact eg)|(with_reducible apply ee)):Gs L (Cw pQ 59 #[eu l] k):=⟨λw y=>(jF p y).elim λF q=>rM q λd e t m=>(f d).go e (y.md0 m) t.m⟩
def Hy(g:X.held.length<4294967295)(f:∀d,Gg d ((X.holders n).map λa=>[ox a]) L (k d))(p:dV L (mi l X::M):=by repeat first|(with_reducible exact eg)|(with_reducible apply ee)):Gs L (Cw pQ 60 #[eu l,gU n] k):=⟨λw y=>(jF p y).elim λF q=>vI q g λd e t m=>(f d).go e (y.md0 m) t.m⟩
def RU(g:X.held.length<4294967295)(f:∀d,Gg d ((X.ofA n).map λa=>[ox a]) L (k d))(p:dV L (mi l X::M):=by repeat first|(with_reducible exact eg)|(with_reducible apply ee)):Gs L (Cw pQ 207 #[eu l,gU n] k):=⟨λw y=>(jF p y).elim λF q=>RL q g λd e t m=>(f d).go e (y.md0 m) t.m⟩
end
end Go.Proofs
set_option maxRecDepth 100000
set_option maxHeartbeats 1000000
namespace Go.Proofs
open Go Go.Vc
section
variable{P:Program}{L M:List As}{k:Value->WP}{s:Vt_}{t T:TypeId}{α:Type}{f:α->List Value}{vf:α->Value}{sz i n:Nat}{l:List α}
def Gs.it(z:P.underlying t=some (.slice T))(E:P.cellsOf T=sz+1)(u:∀x,(f x).length=sz+1)(h:∀x w b d,At w b d (f x)->(iL T (bO b d)).run P w=.ok (vf x) w)
  (B:∀w,Ss w L->Rd w (sz+1) s n (l.flatMap f))(m:n=l.length)(hi:i<l.length)(o:Gs L (k (vf l[i]))):Gs L (Vw P (iX t s (gI (i:Int))) λp=>Vw P (iL T p) k):=⟨λw y=>by
 obtain⟨b,d,q,g,j,r⟩:=(B w y).item u hi m;refine ax (bO b (d+i*(sz+1))) w (by rw[g];subst m;simp[go_sem,hi,bD,z,Go.Vc.kZ E,Result.andThen]) (bh (h _ w _ _ r) (o.go w y))⟩
end
def Qv(x:Od)(w:Wt_)(b off:Nat)(h:At w b off (dx x)):(iL ji (bO b off)).run pQ w=.ok (jQ x) w:=kX h
def Lo(D:List (Int×Value))(n:Int):(lk D n).elim dQ xk=kQ D n:=by unfold kQ;cases lk D n<;>rfl
def OB:Tryz.prog.cellsOf ji=4+1:=cy
section
variable{P:Program}{L M:List As}{k:Value->WP}{s:Vt_}{t:TypeId}{cs:LV_}{n sz:Nat}{e:TypeId}
def Gs.len(d:Tryz.prog.underlying t=some (.slice e))(g:∀w,Ss w L->Rd w sz s n cs)(b:Gs L (k (gI (n:Int)))):Gs L (Nw pQ (builtin .len #[t] 3 #[false] #[s]) k):=⟨λw y=>by
 obtain⟨a,c,rfl⟩:=(g w y).isSl;exact sr (by simp[go_sem,d]) (b.go w y)⟩
def Gs.lenW(d:Tryz.prog.underlying t=some (.slice e))(g:∀w,Ss w L->Rd w sz s n cs)(b:Gs L (k (gI (n:Int)))):Gs L (Ww pQ (Builtin.len_ #[t] 3 #[s]) k):=⟨λw y=>by
 obtain⟨a,c,rfl⟩:=(g w y).isSl;exact cK (by simp[go_sem,d]) (b.go w y)⟩
end
def D2(l:List Ct)(n:Int)(h:(dI l n).2=0):∃k,cg l n=some k/\(dI l n).1=k:=by
 unfold dI at h|-;cases b:cg l n with
 |none=>rw[b]at h;simp at h
 |some k=>exact⟨k,rfl,rfl⟩
section
variable{L M:List As}{K:Value->WP}{v c l mb md:Nat}{A:List (Int×Nat)}{D:List (Int×Value)}{S:bo}{n a:Int}{C:oe}{X:bE}{bk:Int->Bk}{bd:Int->List Od}
def AP(d:oB A D C.l bk)(g:(cg C.l n).isSome=true):∃b,lk A n=some b:=eY.1 (by rw[d.dom];exact g)
def pD(n:Int)(p:dV L (tU D bd::M):=by repeat first|(with_reducible exact eg)|(with_reducible apply ee)):∀w,Ss w L->Rd w 5 (kQ D n) (bd n).length ((bd n).flatMap dx):=λw y=>(jF p y).elim λF q=>(q.q n trivial).rd
def HC{b:Nat}(g:lk A n=some b)(d:Gs L (K (.tuple #[.int .i64 (uc (bk n) a).1,gI (uc (bk n) a).2])))(p:dV L (rG A bk::M):=by repeat first|(with_reducible exact eg)|(with_reducible apply ee)):Gs L (Cw pQ 311 #[fa b,gU a] K):=
 Gs.rd1 (A:=rG A bk) (λw F _ q K h=>q.elim λj q=>L9 (q.q n b trivial g) h) d p
attribute [go_sem] jQ dx kx db ox dy Ym
def Pq{F:List As}(O:oB A D S.cal.l S.bk)(j:rC S)(N:(cg S.cal.l n).isSome=true)
  (w:Gs F (K (.tuple #[.int .i64 (S.opn n a).1,gI (S.opn n a).2])))(p:dV F (vs v c l mb md A D S L):=by repeat first|(with_reducible exact dV.refl)|((apply nL);(·repeat first|(with_reducible exact eg)|(with_reducible apply ee)))):Gs F (Cw pQ 270 #[dL v,gU n,gU a] K):=by
 refine Gs.pk ?_ p;replace w:=Gs.pk w p.symm;refine sN Tryz.func270 ?_;unfold dL;refine au ?_;obtain⟨b,y⟩:=AP O N;refine Gs.look (enc:=eQ) (ev:=fa) (D:=A) (x:=n) (.pointer none) wA kM Sv ?_ (by repeat first|(with_reducible exact eg)|(with_reducible apply ee));rw[y];refine HC y (au ?_);refine Gs.look (enc:=eQ) (ev:=xk) (D:=D) (x:=n) dQ qD kM Ag ?_ (by repeat first|(with_reducible exact eg)|(with_reducible apply ee));rw[Lo];refine Gs.len gX (pD n) ?_;have r:∀o∈S.bd n,1<=o.left/\o.left<=1000000:=λo u=>Od.left_bd (j.bdMay n o u);have J:=j.bdl n;have Q:((S.bk n).all.length:Int)<=200:=by unfold Bk.all;rw[ag];have:=(j.side n true).1;have:=(j.side n false).1;omega
 have G:∀o∈(S.bk n).all,1<=o.left/\o.left<=1000000:=λo u=>by
  obtain⟨d,I⟩:=qJ.1 u;exact Od.left_bd ((j.bkMay n d o I).1)
 have V:=rR (a:=a) (buy:=true) G;have U:=rR (a:=a) (buy:=false) G;unfold bo.opn at w;unfold uc at w|-;refine Gs.l (λi:Nat=>(gI (rV (S.bk n).all a true+rV ((S.bd n).take i) a true),gI (rV (S.bk n).all a false+rV ((S.bd n).take i) a false),gI i,())) ((S.bd n).length - ·) (λ_=>vs v c l mb md A D S L) (·<=(S.bd n).length) 0 (by simp[rV]) qZ ?_ .refl;intro i Y R E
 dsimp only
 refine Gs.z (au ?_);refine Gs.I (λh=>?_) λh=>?_
 ·have m:i<(S.bd n).length:=qZ;refine Gs.it gX OB dP Qv (pD n) rfl m (au ?_);intro q;refine au ?_;have B:=cq m;have z:=r _ (av m);have x1:=rR (l:=(S.bd n).take i) (a:=a) (buy:=true) λo u=>r o (cE u);have W:=rR (l:=(S.bd n).take i) (a:=a) (buy:=false) λo u=>r o (cE u);have Z:(((S.bd n).take i).length:Int)<=50:=by rw[aB];omega
  have g:=(E (i+1) qZ qZ).drop (A:=pt q (dx (S.bd n)[i]) ji);rw[B,qi,qi]at g;generalize(S.bd n)[i]=o at z g|-;refine Gs.Ib (λH=>?_) λH=>au (Gs.Ib (λy=>?_) λy=>?_)
  all_goals
   refine au ?_;simp at H;simpa [*,Int.add_assoc]using g
 ·obtain rfl:i=(S.bd n).length:=qZ;rw[aV];exact w
def Hp{d:List As}(j:1<=S.next/\S.next<=jH+1)(b:jH<S.next->Gs (vs v c l mb md A D S L) (K (.tuple #[.int .u64 0,gI 6])))
  (g:S.next<=jH->Gs (vs v c l mb md A D {S with next:=S.next+1} L) (K (.tuple #[.int .u64 S.next,gI 0])))(p:dV d (vs v c l mb md A D S L):=by repeat first|(with_reducible exact dV.refl)|((apply nL);(·repeat first|(with_reducible exact eg)|(with_reducible apply ee)))):Gs d (Cw pQ 274 #[dL v] K):=by
 refine Gs.pk ?_ p;unfold jH at*;refine sN Tryz.func274 ?_;unfold dL;refine au ?_;refine Gs.I (λh=>b h) λh=>au ?_;exact g qZ
def FX{z:List As}{a n:Int}{buy:Bool}{price qty:Int}{x:Od}(N:oB A D S.cal.l S.bk)(g:S.Ok)(m:eP price)(o:eP qty)(R:0<=x.left/\x.left<=1000000)
  (b:Gs z (K (gI (S.pass a n buy price qty x))))(p:dV z (vs v c l mb md A D S L):=by repeat first|(with_reducible exact dV.refl)|((apply nL);(·repeat first|(with_reducible exact eg)|(with_reducible apply ee)))):Gs z (Cw pQ 216 #[dL v,gU a,gU n,.bool buy,gI price,gI qty,jQ x] K):=by
 refine Gs.pk ?_ p;replace b:=Gs.pk b p.symm;unfold bo.pass at b;refine sN Tryz.func216 ?_;unfold dL;refine au ?_;intro p;refine au ?_;refine rq ?_;rw[nC];refine au ?_;intro q;refine au ?_;refine Gs.Ib (λh=>au ?_) λh=>au ?_
 ·have h:S.led.getO a=none:=by simpa using h
  rw[ae h]at b|-;exact b.fin
 have h:¬S.led.getO a=none:=by simpa using h
 rw[aa h]at b;refine zm (au ?_);refine Gs.bvar cy tM (bV _) cy (lV _) λr=>au ?_;have d:=D2 S.cal.l n;generalize Q:dI S.cal.l n=G at b d|-;refine Gs.Ib (λw=>?_) λw=>?_
 ·rw[ae (by simpa using w)]at b;exact b.fin
 obtain⟨k,E,y⟩:=d (by simpa using w);rw[aa (by simpa using w)]at b;have u:=(g.cal.ok k (rm E)).1;rw[<-y]at u;refine Pq N g.ord (by rw[E];rfl) ?_;have H:=U2 g.ord n a;generalize S.opn n a=O at H b|-;refine au ?_;refine Gs.j1 (gI (O.1 - if x.buy then x.left else 0),gI (O.2 - if x.buy then 0 else x.left),()) (λJ I=>au ?_) ?_
 ·refine Gs.Ib (λB=>au ?_) λB=>au ?_ <;>simpa [B]using I
 refine Gs.z (au ?_);have F:=ky (P:=pQ) (L:=pt r (dD G.1) kP::pt q (db (S.acc a)) 100::pt p (dx x) ji::vs v c l mb md A D S L) (by repeat first|(with_reducible exact eg)|(with_reducible apply ee)) Hk tM (bV G.1);refine Gs.WX F (au ?_);refine rJ (au ?_);refine Gs.E F (au ?_);refine Gs.bBP (Ty ⟨G.1,S.acc a,(S.led.position n a).q,O.1 - (if x.buy then x.left else 0),O.2 - (if x.buy then 0 else x.left),buy,price,qty⟩) ?_;have j:=g.led.led.position n a;unfold MP at j;refine Ra ⟨u,⟨by show _<=(S.led.position n a).q;omega,by show(S.led.position n a).q<_;omega⟩,?_,?_,m,o⟩ b.fin
 ·constructor<;>show _<;>simp only<;>split<;>omega
 ·constructor<;>show _<;>simp only<;>split<;>omega
end
end Go.Proofs
set_option maxRecDepth 100000
set_option maxHeartbeats 1000000
namespace Go.Proofs
open Go Go.Vc
attribute [local congr] aZ
def NB:∀(l:List Lg) (rs:List Rt) (k:Int),0<=k->rs.length=9->(∀r∈rs,r.Bd k)->(∀x∈l,ye x=true)->(l.foldl mh rs).length=9/\∀r∈l.foldl mh rs,r.Bd (k+l.length)
 | [],rs,k,_,a,b,_=>⟨a,by simpa using b⟩
 |x::l,rs,k,g,a,b,d=>by
  rw[eV];have h1:(mh rs x).length=9:=by unfold mh;split;exact a;split;rw[bK];exact a;exact a
  obtain⟨f,j⟩:=NB l (mh rs x) (k+1) qZ h1 (BZ g b (d x ai)) λy h=>d y (af _ h);refine⟨f,λr i=>?_⟩;have:=j r i;rw[be];have e:k+1+(l.length:Int)=k+((l.length+1:Nat):Int):=qZ
  rwa[e]at this
def LI(l:List Lg):0<=(jB l).1/\(jB l).1<=14400000000000000:=by
 unfold jB;split
 ·simp
 ·rename_i j
  split
  ·simp
  ·rename_i b
   split
   ·simp
   ·have a:∀x∈l,ye x=true:=λx m=>bf.1 (by simpa using b) x m
    obtain⟨h1,f⟩:=NB l (List.replicate 9 RT) 0 qZ (by simp) (λr d=>by
     rw[lT d];exact⟨by decide,by decide,by decide,by decide,by decide,by decide,by decide,by decide⟩) a
    have k:=GG (l:=l.foldl mh (List.replicate 9 RT)) λr d=>by
     obtain⟨n,q,h,o,i,p,g,e⟩:=f r d;have:(l.length:Int)<=16:=qZ;exact⟨n,qZ,h,qZ,i,qZ,g,e⟩
    rw[h1]at k;simp only;omega
def Qz(l:List kY):(0<=(pg l).1.m/\(pg l).1.m<=14400000000000000)/\(0<=(pg l).1.w/\(pg l).1.w<=200000000000000000)/\0<=(pg l).1.u/\(pg l).1.u<=17600000000000000:=by
 unfold pg;split
 ·simp
 ·rename_i g
  split
  ·simp
  ·rename_i e
   have d:∀x∈l,x.ok=true:=λx f=>bf.1 (by simpa using e) x f;split
   ·simp
   ·have a:=LI (l.map (·.leg));have b:=Dc d;have c:=OO d;have:(l.length:Int)<=16:=qZ;simp only;omega
def JD(S:bo)(a:Int):(0<=(S.need a).1.m/\(S.need a).1.m<=14400000000000000)/\(0<=(S.need a).1.w/\(S.need a).1.w<=200000000000000000)/\0<=(S.need a).1.u/\(S.need a).1.u<=17600000000000000:=by
 unfold bo.need;split
 ·simp
 ·exact Qz _
def Rj(S:bo)(a:Int):0<=(S.need a).1.total/\(S.need a).1.total<=240000000000000000:=by
 have:=JD S a;unfold Nd.total;omega
section
variable{w:Wt_}{K:aY}{v c l mb md:Nat}{A:List (Int×Nat)}{D:List (Int×Value)}{fp:Pt->Nat->Prop}{S:bo}
end
abbrev YL:TypeId:=148
def Xi(t:Td):Value:=.agg (Di t).toArray
def Em(t:Td):(Di t).length=4:=rfl
end Go.Proofs
set_option maxRecDepth 100000
set_option maxHeartbeats 1000000
namespace Go.Proofs
open Go Go.Vc
def Uo(Ls:List (kY×Value)):As:=⟨λw F=>(∀x∈Ls,qp w x.2 x.1.ords)/\∀b,F b↔∃x∈Ls,aK x.2 b,λh hb=>by
  obtain⟨x,hx,hb⟩:=(h.2 _).1 hb;exact(h.1 x hx).lt hb,λh m hg=>⟨λx hx=>(h.1 x hx).mod m λb hb=>hg b ((h.2 b).2 ⟨x,hx,hb⟩),h.2⟩⟩
section
variable{L L0 M:List As}{φ:WP}{Ls:List (kY×Value)}{x:kY×Value}{k:Value->WP}{P:Program}
def Sg(h:Gs (Uo []::L) φ):Gs L φ:=⟨λw y=>h.go w (y.new (aS.refl _ w) (F' :=λ_=>False) ⟨by simp,by simp⟩ λ_ h=>h.elim)⟩
def Sa(h:Gs (Uo (Ls++[x])::M) φ)(p:dV L (lX x.2 x.1.ords::Uo Ls::M):=by repeat first|(with_reducible exact dV.refl)|((apply nL);(·repeat first|(with_reducible exact eg)|(with_reducible apply ee)))):Gs L φ:=⟨λw ⟨F,y⟩=>by
 obtain⟨i,u,⟨h1,f⟩,⟨F3,m,⟨s,g⟩,o,r,t⟩,q,B⟩:=(p.out w F).1 y;refine h.go w (Ss.cons.2 ⟨λb=>i b\/F3 b,m,⟨λz d=>?_,λb=>?_⟩,o,λb e j=>?_⟩)
 ·rcases bm.1 d with d|d
  ·exact s z d
  ·rw[bN.1 d];exact h1
 ·show i b\/F3 b↔_;rw[f,g];simp only[bm,bN];constructor
  ·rintro(h|⟨z,d,h⟩)
   ·exact⟨x,.inr rfl,h⟩
   ·exact⟨z,.inl d,h⟩
  ·rintro⟨z,d|rfl,e⟩
   ·exact .inr ⟨z,d,e⟩
   ·exact .inl e
 ·rcases e with e|e
  ·exact q b e ((t b).2 (.inr j))
  ·exact r b e j⟩
def RJ{t:kY}{s:Vt_}{os:List Od}(b:t.ords=os)(h:Gs (Uo (Ls++[(t,s)])::M) φ)(p:dV L (lX s os::Uo Ls::M):=by repeat first|(with_reducible exact dV.refl)|((apply nL);(·repeat first|(with_reducible exact eg)|(with_reducible apply ee)))):Gs L φ:=by subst b;exact Sa (x:=(t,s)) h p
def Gs.jv{S:Type}{a:(S->WP)->WP}{b:S->WP}(st:Nat->S)(cs:LV_)(T:TypeId)(d:∀J:S->WP,(∀r,Gs (pt r cs T::L) (J (st r)))->Gs L (a J))(f:∀r,Gs (pt r cs T::L) (b (st r))):Gs L (Jw a b):=
 Gs.j st (λr=>pt r cs T::L) (λ_=>True) (λJ e=>d J λr=>e r trivial) λr _=>f r
end
abbrev poX(p:Po):List Value:=[.int .u32 p.c,gU p.a,gI p.q,gI p.b]
abbrev ab4(T:TypeId):Value->(Value->WP)->WP:=λx k=>Xw pQ (tW T) λv=>Yw pQ (oT T v x) (k v)
abbrev af6(T:TypeId):Value->(Value->WP)->WP:=λx k=>Vw pQ (iA T true (.tuple #[])) λv=>Uw pQ (iS T v x) (k v)
def Ko(xs:List Ct):Z7 kP (λk=>.agg (dD k).toArray) dD xs (ab4 kP):=λk e W K b=>ON λd h m=>b d h m
def Rq{α:Type}{T:TypeId}{fv:α->Value}{fc:α->List Value}{xs:List α}(b:nQ T fv fc xs):Z7 T fv fc xs (af6 T):=λa d W K f=>by
 obtain⟨m,i,h,g,e,j⟩:=b a d W;exact bh h (gg g (f i e j))
def Zr{L M:List As}{b:Nat}{k:Ct}{T:TypeId}(p:dV L (pt b (dD k) T::M)):∀w,Ss w L->(qm 48 (bO b 0)).run pQ w=.ok (.agg (fC k.spec).toArray) w:=λw y=>by
 have d:At w b 0 (fC k.spec):=by
  have:=(At.all (tG p y)).sub 0 25 (by rw[bV];omega);rw[eT,dD,aN (by rw[bG];omega),aC (by rw[bG];omega)]at this;exact this
 exact fK zF xG (bG _) d
def Zq(s:kY)(x y:Vt_)(l:List Od):(pK (s,x)).set 28 y=pK ({s with ords:=l},y):=by
 unfold pK;rw[dO _ _ (by rw[gM];omega),gM];rfl
attribute [go_sem] Ox UQ B3 OU E5 xm
section
variable{L L0 M:List As}{K:Value->WP}{v c l mb md:Nat}{A:List (Int×Nat)}{D:List (Int×Value)}{S:bo}{n a:Int}
def xR{k:Int}(b:Gs L (K (.bool true)))(p:dV L (Nr v c l mb md k::M):=by repeat first|(with_reducible exact eg)|(with_reducible apply ee)):Gs L (Cw pQ 42 #[dL v] K):=by
 refine Gs.pk ?_ p;replace b:=Gs.pk b p.symm;refine sN Tryz.func42 ?_;unfold dL;refine au ?_;exact b
def I6{o:Od}{e:Lg}{d j:Int}{l:List Od}{x:Option Addr}{y q b r:Nat}{k0 k1:WP}(E:l.length<=250)
  (t:kO a o=false->Gs (pt q (dx o) ji::pt b (pK (⟨e,d,j,l⟩,.slice x l.length y)) t6::lX (.slice x l.length y) l::pt r [.int .u32 a] 45::M) k0)
  (h1:kO a o=true->∀i g,Gs (pt q (dx o) ji::pt b (pK (⟨e,d,j,l++[o]⟩,.slice i (l++[o]).length g)) t6::lX (.slice i (l++[o]).length g) (l++[o])::pt r [.int .u32 a] 45::M) k1)
  (p:dV L (pt q (dx o) ji::pt b (pK (⟨e,d,j,l⟩,.slice x l.length y)) t6::lX (.slice x l.length y) l::pt r [.int .u32 a] 45::M):=by repeat first|(with_reducible exact dV.refl)|((apply nL);(·repeat first|(with_reducible exact eg)|(with_reducible apply ee)))):
  Gs L (Iw (.bool (o.acct==a)) (Vw pQ (iF t6 (bO b 0) 3) λC=>Vw pQ (iL rE C) λs=>Vw pQ (iL ji (bO q 0)) λz=>Xw pQ (pN rE 1 [(0,z)]) λB=>Xw pQ (eZ #[rE,rE] rE [s,B]) λu=>
    Vw pQ (iF t6 (bO b 0) 3) λm=>Uw pQ (iS rE m u) k1) k0):=by
 refine Gs.pk ?_ p;refine Gs.Ib (λh=>au ?_) λh=>?_
 ·refine Gs.push (x:=o) (f:=dx) (l:=l) gX Ln dP (lQ o) rfl qZ qZ (λi g=>?_) (by repeat first|(with_reducible exact eg)|(with_reducible apply ee));refine au ?_;refine Gs.st (by repeat first|(with_reducible exact eg)|(with_reducible apply ee)) (λw h=>by simp[go_sem,h,E5]) (Zq ⟨e,d,j,l⟩ _ _ (l++[o])) ?_;exact(h1 (by simpa [kO]using h) i g).fin
 ·exact(t (by simpa [kO]using h)).fin
def Pe{s:Vt_}{Ls:List (kY×Value)}(h:Ls.length<=100000)(d:∀x∈Ls,x.1.Fit/\x.1.ords.length<=1000000)(f:Gs L (K (.tuple #[LX (pg (Ls.map (·.1))).1,gI (pg (Ls.map (·.1))).2])))
  (p:dV L (ow s t6 29 Ls.length (Ls.flatMap pK)::Uo Ls::M):=by repeat first|(with_reducible exact dV.refl)|((apply nL);(·repeat first|(with_reducible exact eg)|(with_reducible apply ee)))):Gs L (Cw pQ 301 #[s] K):=⟨λw ⟨F,z⟩=>by
 obtain⟨o,i,h1,⟨F3,j,g,-⟩,-⟩:=(p.out w F).1 z;exact OA h1.1.rd h (λx b=>⟨(d x b).1,(d x b).2,(g.1 x b).rd⟩) λe m=>f.go e ((⟨F,z⟩:Ss w L).md0 m)⟩
set_option maxHeartbeats 4000000 in
def Ql{a:Int}(hv:oB A D S.cal.l S.bk)(s:S.Ok)(Z:Gs L0 (K (.tuple #[LX (S.need a).1,gI (S.need a).2])))(p:dV L0 (vs v c l mb md A D S L):=by repeat first|(with_reducible exact dV.refl)|((apply nL);(·repeat first|(with_reducible exact eg)|(with_reducible apply ee)))):Gs L0 (Cw pQ 257 #[dL v,gU a] K):=by
 refine Gs.pk ?_ p;replace Z:=Gs.pk Z p.symm;refine sN Tryz.func257 ?_;unfold dL;refine au ?_;intro p0;refine au ?_;intro p1;refine au ?_;intro p2;refine au ?_;refine xR (au ?_);refine Gs.j1 (gI (if S.led.getO a=none then 7 else 0),()) (λJ F=>au ?_) ?_
 ·refine Gs.An ?_ (au ?_)
  ·refine rq ?_;rw[nC];refine au ?_;intro r;refine au ?_;exact F.fin
  ·intro r;refine au ?_;refine rq ?_;rw[nC];refine au ?_;exact F.fin
 refine Gs.z ?_;refine Gs.j1 (.bool (decide (S.led.getO a=none\/a=0)),()) (λJ F=>au ?_) ?_
 ·refine Gs.Ib (λH=>?_) λH=>au ?_
  ·have H:S.led.getO a=none:=by simpa using H
   simpa [H]using F
  ·have H:¬S.led.getO a=none:=by simpa using H
   simpa [H,show(a==0)=decide (a=0)from rfl]using F
 refine Gs.z (Gs.I (λu=>au ?_) λu=>au ?_)
 ·have e:S.need a=(Hf,7):=by unfold bo.need;rw[ae u];rfl
  rw[e]at Z;exact Z.fin
 have O:S.need a=pg (S.stakes a):=by unfold bo.need;rw[aa u]
 intro p;refine au ?_;refine Gs.nil t6 29 (Sg (zp λgv=>?_));refine Gg.rf (λ_ _ _ _=>rfl) (Ko _) (I:=λi (b:Option Addr×Nat×List (kY×Value)) M=>pt p [.slice b.1 b.2.2.length b.2.1] 410::ow (.slice b.1 b.2.2.length b.2.1) t6 29 b.2.2.length (b.2.2.flatMap pK)::Uo b.2.2::pt p1 [.int .u32 a] 45::pt p0 [.pointer (some ⟨v,0,none⟩)] 24::vs v c l mb md A D S M) (E:=λ(_:Unit) M=>M) (λ_ _ _=>rfl) (λ_ _=>rfl) (λi b=>b.2.2.map (·.1)=tz S a i) (λ_ _=>False) (none,0,[]) rfl ?_ ?_ (λ_ _ _ h=>h.elim) (by simp only[List.length_nil,ff,dR,eG,bg,dQ,lX];(repeat first|(with_reducible exact dV.refl)|((apply nL);(·repeat first|(with_reducible exact eg)|(with_reducible apply ee)))))
 ·rintro i hi ⟨sa,sc,Ls⟩ C l1 r1 q M kn kj U -
  dsimp only at C|-
  have m:=DZ (S:=S) (a:=a) hi
  have hLs:Ls.length<=16:=by
   have h:=dW List.length C;have h1:=bi (λk=>decide (k.st≠3)) (S.cal.l.take i);have h2:=s.cal.len;unfold tz at h;rw[ah,ah]at h;rw[aB]at h1;omega
  have W:S.cal.l[i]∈S.cal.l:=av hi;generalize S.cal.l[i]=k at m W|-;refine au ?_;refine Gs.Ib (λh=>?_) λh=>au ?_
  ·rw[ae (by simpa using h),bg]at m;exact(U (sa,sc,Ls) _ (by rw[m];exact C)).fin
  have h3:¬k.st=3:=by simpa using h
  rw[aa h3]at m;refine Gs.jv (λr=>(.pointer (some ⟨r,0,none⟩),())) (poX (S.led.position k.spec.num a)) 124 (λJ F=>au ?_) λr=>?_
  ·refine Gs.An ?_ (au ?_)
   ·refine rJ (au ?_);intro r;refine au ?_;exact(F r).fin
   ·intro r;refine au ?_;refine rJ (au ?_);exact(F r).fin
  dsimp only
  refine Gs.z ?_;refine au ?_;refine Gs.X (λw y=>Zr (k:=k) (b:=q) (T:=kP) (by repeat first|(with_reducible exact eg)|(with_reducible apply ee)) w y) ?_;refine au ?_;refine Gs.bB (Tf _ _) (au ?_);refine Gs.bB (SM _ _ _) ?_;refine Gs.bvar zSk Xb (oJ _) cy (DA _ rO) λq2=>au ?_;obtain⟨b,X⟩:=AP hv (n:=k.spec.num) (by rw[Cf s.cal W];rfl);refine Gs.look (enc:=eQ) (ev:=fa) (D:=A) (x:=k.spec.num) (.pointer none) wA kM Sv ?_ (by repeat first|(with_reducible exact eg)|(with_reducible apply ee));rw[X];refine Gs.nil ji 5 (TI (n:=k.spec.num) X λgv2=>?_);have G:(S.bk k.spec.num).all.length<=200:=by unfold Bk.all;rw[ag];have:=(s.ord.side k.spec.num true).1;have:=(s.ord.side k.spec.num false).1;omega
  generalize hAl:(S.bk k.spec.num).all=t at G|-;refine Gg.rn (λ_ _ _ _=>rfl) (Rq nQ.od) (I:=λj (b:Option Addr×Nat) M=>pt q2 (pK (⟨⟨k.spec,(S.led.position k.spec.num a).q⟩,(S.led.position k.spec.num a).b,k.price,(t.take j).filter (kO a)⟩,.slice b.1 ((t.take j).filter (kO a)).length b.2)) t6::lX (.slice b.1 ((t.take j).filter (kO a)).length b.2) ((t.take j).filter (kO a))::pt p1 [.int .u32 a] 45::M) (E:=λ(_:Unit) M=>M) (λ_ _ _=>rfl) (λ_ _=>rfl) (λ_ _=>True) (λ_ _=>False) (none,0) trivial ?_ ?_ (λ_ _ h=>h.elim) (by simp only[List.length_nil,ff,dR,eG,bg,dQ,lX];(repeat first|(with_reducible exact dV.refl)|((apply nL);(·repeat first|(with_reducible exact eg)|(with_reducible apply ee)))))
  ·rintro j hj ⟨x,y⟩ - l2 q3 M2 kn2 kj2 g -;have B:=cq hj
   dsimp only at g|-
   rw[B,cw]at g;generalize t[j]=o at g|-;have Q:((t.take j).filter (kO a)).length<=250:=ci (bi _ _) (by rw[aB];omega);refine au ?_;refine I6 Q (λh=>?_) λh x' Y=>?_
   ·rw[aU (by simp[h]),eG,bg]at g;exact(g (x,y) trivial).fin
   ·rw[bI h,eG]at g;exact(g (x',Y) trivial).fin
  rintro⟨x,y⟩ -;rw[aV];refine Gs.ak (au ?_);refine Gs.look (enc:=eQ) (ev:=xk) (D:=D) (x:=k.spec.num) dQ qD kM Ag ?_ (by repeat first|(with_reducible exact eg)|(with_reducible apply ee));rw[Lo];refine Gs.len gX (pD k.spec.num) ?_;have hBdl:=s.ord.bdl k.spec.num;have hF:(t.filter (kO a)).length<=200:=ci (bi _ _) G;refine Gs.l (λb:Nat×Option Addr×Nat=>(gI b.1,())) (λb=>(S.bd k.spec.num).length - b.1) (λb=>pt q2 (pK (⟨⟨k.spec,(S.led.position k.spec.num a).q⟩,(S.led.position k.spec.num a).b,k.price,t.filter (kO a)++((S.bd k.spec.num).take b.1).filter (kO a)⟩,.slice b.2.1 (t.filter (kO a)++((S.bd k.spec.num).take b.1).filter (kO a)).length b.2.2)) t6::lX (.slice b.2.1 (t.filter (kO a)++((S.bd k.spec.num).take b.1).filter (kO a)).length b.2.2) (t.filter (kO a)++((S.bd k.spec.num).take b.1).filter (kO a))::pt p1 [.int .u32 a] 45::pt q (dD k) kP::pt p [.slice sa Ls.length sc] 410::ow (.slice sa Ls.length sc) t6 29 Ls.length (Ls.flatMap pK)::Uo Ls::pt p0 [.pointer (some ⟨v,0,none⟩)] 24::vs v c l mb md A D S (wP l1 r1::pt r (poX (S.led.position k.spec.num a)) 124::M)) (λb=>b.1<=(S.bd k.spec.num).length) (0,x,y) rfl (by simp) ?_ (by simp only[List.length_nil,ff,dR,eG,bg,dQ,lX];(repeat first|(with_reducible exact dV.refl)|((apply nL);(·repeat first|(with_reducible exact eg)|(with_reducible apply ee)))));rintro⟨j,x,y⟩ hj KN N
  dsimp only at hj N|-
  refine Gs.z (au ?_);refine Gs.I (λh=>?_) λh=>?_
  ·have V:j<(S.bd k.spec.num).length:=qZ;have B:=cq V;refine Gs.it gX OB dP Qv (pD k.spec.num) rfl V (au ?_);intro q5;generalize(S.bd k.spec.num)[j]=o at B|-;refine au ?_
   have Q:(t.filter (kO a)++((S.bd k.spec.num).take j).filter (kO a)).length<=250:=by
    rw[ag];have:=bi (kO a) ((S.bd k.spec.num).take j);rw[aB]at this;omega
   refine I6 Q (λh=>?_) λh x' Y=>?_
   ·refine au ?_;have:=N (j+1,x,y) (by dsimp only;omega) (by dsimp only;omega)
    dsimp only at this
    rw[B,cw,<-aH]at this;rw[aU (by simp[h]),eG,bg]at this;exact this.fin
   ·refine au ?_;have:=N (j+1,x',Y) (by dsimp only;omega) (by dsimp only;omega)
    dsimp only at this
    rw[B,cw,<-aH]at this;rw[bI h,eG]at this;exact this.fin
  ·obtain rfl:j=(S.bd k.spec.num).length:=qZ;rw[aV];refine au ?_;refine Gs.X (λw z=>ky (by repeat first|(with_reducible exact eg)|(with_reducible apply ee)) aSk Xb (oJ _) w z) ?_;refine Gs.push (l:=Ls) (x:=(S.stake a k,.slice x (t.filter (kO a)++(S.bd k.spec.num).filter (kO a)).length y)) (f:=pK) YY eSk oJ (DA _ ⟨_,_,_,rfl⟩) rfl qZ qZ (λx' Y=>?_) (by repeat first|(with_reducible exact eg)|(with_reducible apply ee));refine au ?_;have R:(S.stake a k).ords=t.filter (kO a)++(S.bd k.spec.num).filter (kO a):=by rw[<-hAl];rfl
   refine RJ R (Ls:=Ls) ?_;have:=U (x',Y,Ls++[(S.stake a k,.slice x (t.filter (kO a)++(S.bd k.spec.num).filter (kO a)).length y)]) (dD k) (by rw[m,aM,C];rfl);exact this.fin
 ·rintro⟨sa,sc,Ls⟩ d C
  dsimp only at C|-
  have e:tz S a S.cal.l.length=S.stakes a:=by unfold tz bo.stakes;rw[aV]
  rw[e]at C;refine Gs.ak (au ?_)
  have hLl:Ls.length<=16:=by
   have:=dW List.length C;rw[ah]at this;rw[this];unfold bo.stakes;rw[ah];exact ci (bi _ _) s.cal.len
  refine Pe (Ls:=Ls) qZ (λx hx=>?_) ?_
  ·have hm:x.1∈S.stakes a:=by rw[<-C];exact aR hx
   unfold bo.stakes at hm;obtain⟨k,hk,he⟩:=aL.1 hm;have:=KG s (a:=a) (aT.1 hk).1;rw[he]at this;exact⟨this.1,qZ⟩
  rw[C,<-O];refine au ?_;refine Gs.tw ?_;refine au ?_;exact Z.fin
end
end Go.Proofs
set_option maxRecDepth 100000
set_option maxHeartbeats 1000000
namespace Go.Proofs
open Go Go.Vc
attribute [local congr] aZ
variable {W:Wt_}
abbrev lZ:TypeId:=51
def fW(c:Cm):(jO c).length=35:=by simp[jO,bG]
def Jh(c:Cm):(jO c).all (·.oneCell')=true:=by rw[jO,ek,ek,tm];rfl
def ZR(c:Cm):(jO c)[0]? =some (gB c.kind):=rfl
def Yy(c:Cm):(jO c)[1]? =some (gU c.acct):=rfl
def Xt(c:Cm):(jO c)[2]? =some (gU c.ct):=rfl
def YG(c:Cm):(jO c)[3]? =some (gQ c.num):=rfl
def YH(c:Cm):(jO c)[4]? =some (gI c.amt):=rfl
def QF(c:Cm)(i:Nat):(jO c)[30+i]? =([.bool c.on,.bool c.buy,gB c.ty,gI c.price,gI c.qty]:LV_)[i]? :=by
 rw[jO,bH (by show 5<=30+i;omega),bH (by rw[bG];simp;omega),bG];congr 1;simp;omega
def Nz(c:Cm):(jO c)[30]? =some (.bool c.on):=QF c 0
def NN(c:Cm):(jO c)[31]? =some (.bool c.buy):=QF c 1
def WB(c:Cm):(jO c)[32]? =some (gB c.ty):=QF c 2
def PJ(c:Cm):(jO c)[33]? =some (gI c.price):=QF c 3
def Pj(c:Cm):(jO c)[34]? =some (gI c.qty):=QF c 4
def Qs:lI pQ lZ=true:=cy
def MG:Tryz.prog.cellsOf lZ=34+1:=cy
abbrev dX(W:Wt_)(p:Nat)(c:Cm):Prop:=hC W p (jO c).toArray lZ
def vg(c:Cm):Value:=.agg (jO c).toArray
def Ur(c:Cm)(w:Wt_):∃a,(Instr.box lZ (vg c)).run pQ w=.ok (bO w.heap.size 0) a/\dX a w.heap.size c/\M0 w a:=
 ⟨w.alloc (.cells (jO c).toArray lZ),rfl,by show hp _ _=_;simp[go_sem],(aS.refl _ w).alloc _⟩
def HX{p:Nat}{c:Cm}(h:dX W p c):(qm lZ (bO p 0)).run pQ W=.ok (vg c) W:=fK Qs MG (fW c) (At.all h)
section
variable{W:Wt_}{p:Nat}{c:Cm}
def vl(W:Wt_):(iF lZ (bO p 0) 1).run pQ W=.ok (bO p 1) W:=by simp[go_sem]
def BQ(W:Wt_):(iF lZ (bO p 0) 2).run pQ W=.ok (bO p 2) W:=by simp[go_sem]
def Nj(W:Wt_):(iF lZ (bO p 0) 3).run pQ W=.ok (bO p 3) W:=by simp[go_sem]
def VY(W:Wt_):(iF lZ (bO p 0) 4).run pQ W=.ok (bO p 4) W:=by simp[go_sem]
def P6(W:Wt_):(iF lZ (bO p 0) 6).run pQ W=.ok (bO p 30) W:=by simp[go_sem]
def Yi(W:Wt_):(iF lZ (bO p 0) 7).run pQ W=.ok (bO p 31) W:=by simp[go_sem]
def Ni(W:Wt_):(iF lZ (bO p 0) 9).run pQ W=.ok (bO p 33) W:=by simp[go_sem]
def KC(W:Wt_):(iF lZ (bO p 0) 10).run pQ W=.ok (bO p 34) W:=by simp[go_sem]
def FD(h:dX W p c):(iL 45 (bO p 1)).run pQ W=.ok (gU c.acct) W:=by simp[go_sem,h,Yy]
def Ho(h:dX W p c):(iL 45 (bO p 2)).run pQ W=.ok (gU c.ct) W:=by simp[go_sem,h,Xt]
def PU(h:dX W p c):(iL 37 (bO p 3)).run pQ W=.ok (gQ c.num) W:=by simp[go_sem,h,YG]
def Za(h:dX W p c):(iL 2 (bO p 4)).run pQ W=.ok (gI c.amt) W:=by simp[go_sem,h,YH]
def R8(h:dX W p c):(iL 4 (bO p 30)).run pQ W=.ok (.bool c.on) W:=by simp[go_sem,h,Nz]
def VJ(h:dX W p c):(iL 4 (bO p 31)).run pQ W=.ok (.bool c.buy) W:=by simp[go_sem,h,NN]
def DG(h:dX W p c):(iL 2 (bO p 33)).run pQ W=.ok (gI c.price) W:=by simp[go_sem,h,PJ]
def wD(h:dX W p c):(iL 2 (bO p 34)).run pQ W=.ok (gI c.qty) W:=by simp[go_sem,h,Pj]
end
def Ea{mb:Nat}{A:List (Int×Nat)}(h:eF eQ fa W mb A){n:Int}{b:Nat}(a:lk A n=some b):(ju 90 (.map (some mb)) (gU n) false).run pQ W=.ok (fa b) W:=by
 have:=mB (ok:=false) (x:=n) wA kM Sv (.inr ⟨mb,rfl,h⟩:yW eQ fa W (.map (some mb)) A);rw[a]at this;exact this
def zZ{md:Nat}{D:List (Int×Value)}(h:eF eQ xk W md D)(n:Int):(ju 91 (.map (some md)) (gU n) false).run pQ W=.ok (kQ D n) W:=by
 have:=mB (ok:=false) (x:=n) qD kM Ag (.inr ⟨md,rfl,h⟩:yW eQ xk W (.map (some md)) D);unfold kQ;cases a:lk D n with
 |none=>rw[a]at this;exact this
 |some x=>rw[a]at this;exact this
def Ka(W:Wt_):∃a,(iA 246 true (.tuple #[])).run pQ W=.ok (bO W.heap.size 0) a/\hC a W.heap.size (rB dQ dQ 0 0) 246/\M0 W a:=
 ⟨W.alloc (.cells (rB dQ dQ 0 0) 246),by simp[go_sem,rB,dQ],by simp[go_sem],(aS.refl _ W).alloc _⟩
def Kt{q:Nat}{a b:Vt_}{f l:Int}(sT sG:Vt_)(d e:Int)(h:hC W q (rB a b f l) 246)(k:∃a n c,sT=.slice a n c)(r:∃a n c,sG=.slice a n c):
  ∃g,(iS 246 (bO q 0) (.agg (rB sT sG d e))).run pQ W=.ok () g/\hC g q (rB sT sG d e) 246/\aS (λb=>b=q) W g:=by
 obtain⟨t,s,m,rfl⟩:=k;obtain⟨i,o,j,rfl⟩:=r;unfold rB at h;exact⟨(((W.setCell ⟨q,0,none⟩ (.slice t s m)).setCell ⟨q,1,none⟩ (.slice i o j)).setCell ⟨q,2,none⟩ (gI d)).setCell ⟨q,3,none⟩ (gI e),by simp[go_sem,h,rB],by simp[go_sem,h,rB],((((aS.refl (λx=>x=q) W).sc).sc).sc).sc⟩
section
variable{w:Wt_}{K:aY}{v c l mb md:Nat}{A:List (Int×Nat)}{D:List (Int×Value)}{fp:Pt->Nat->Prop}{S:bo}
end
def Mp{S:bo}(h:S.Ok){c:Cm}(g:c.Fit)(a:c.acct≠0)(h1:(S.order c).1=0)(d:(cV (S.bk c.ct) (c.od S.next) c.ty).1=0):({S with bk:=eL S.bk c.ct (cV (S.bk c.ct) (c.od S.next) c.ty).2.1,next:=S.next+1}:bo).Ok:=by
 obtain⟨hp,i,j⟩:=pV a h1;obtain⟨e,-⟩:=zH d;have b:=h.next
 have f:=tn h.ord (n:=c.ct) (o:=c.od S.next) (rests:=decide (c.ty=1\/c.ty=4)) (nx:=S.next+1) hp.alive (DE a qZ hp.price hp.qty) (AF g ⟨qZ,by unfold jH at i;omega⟩)
  (by show S.next<_;omega) hp.stands (tf h.ord) qZ
 rw[e];exact⟨h.cal,h.led,f,⟨by grind,by grind⟩,h.fnd⟩
def pI{l:List Ct}{n:Int}(h:bt l n=0):(cg l n).isSome=true:=by
 obtain⟨k,a,-⟩:=nR h;rw[a];rfl
def MR{B:Bk}{o:Od}{k:Int}(e:∀d,(B d).length<=100):(cV B o k).2.2.trades.length<=100:=by
 have a:∀L left,(eN o left L).2.2.1.length<=L.length:=by
  intro L;induction L with
  |nil=>intro left;simp[eN]
  |cons b r f=>
   intro left;unfold eN;split
   ·simp
   ·split
    ·grind
    ·split
     ·simp
     ·grind
 unfold cV;split
 ·simp
 ·split
  ·simp
  ·split
   ·simp
   ·split
    ·simp
    ·split
     ·simp
     ·have h1:=a (B !o.buy) o.left;have g:=e !o.buy;unfold eW;simp only;split<;>(simp only;omega)
end Go.Proofs
