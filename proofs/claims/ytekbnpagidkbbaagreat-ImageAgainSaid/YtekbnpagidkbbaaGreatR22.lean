/- Part of a proof. -/
import Derived.Test.YtekbnpagidkbbaaGreatR20
set_option linter.all false
set_option maxRecDepth 100000
set_option maxHeartbeats 4000000
namespace Go.Proofs
open Go Go.Vc
def oz(c:Nat)(C:oR):As:=⟨λw F=>mC w c F C,λh hb=>h.lt hb,λh m hg=>h.mod m hg⟩
def mN(l:Nat)(X:bJ):As:=⟨λw F=>iw w l F X,λh hb=>h.lt hb,λh m hg=>h.mod m hg⟩
def Cy(b:Nat)(B:Bk):As:=⟨λw F=>gg w b F B,λh hb=>h.lt hb,λh m hg=>h.mod m hg⟩
def uM(v:Nat)(S:bt):As:=⟨λw F=>Ga w v F S,λh hb=>h.lt hb,λh m hg=>h.mod m hg⟩
abbrev mE(s:Vt_)(l:List Od):As:=ow s jG 5 l.length (l.flatMap dF)
structure ag4(p:Int->Prop)(A:List (Int×Nat))(bk:Int->Bk)(w:Wt_)(F:NP_)(fp:Int->Nat->Prop):Prop where
 q:∀n b,p n->lk A n=some b->gg w b (fp n) (bk n)
 dj:∀n m x,p n->p m->fp n x->fp m x->n=m
 f:∀x,F x↔∃n,p n/\(lk A n).isSome=true/\fp n x
def Xt(p:Int->Prop)(A:List (Int×Nat))(bk:Int->Bk):As:=⟨λw F=>∃fp,ag4 p A bk w F fp,λ⟨fp,h⟩ hb=>by
  obtain⟨n,hp,hs,hx⟩:=(h.f _).1 hb;obtain⟨b,e⟩:=fh.1 hs;exact(h.q n b hp e).lt hx,λ⟨fp,h⟩ m hg=>⟨fp,λn b hp e=>(h.q n b hp e).mod m λx hx=>hg x ((h.f x).2 ⟨n,hp,by rw[e];rfl,hx⟩),h.dj,h.f⟩⟩
abbrev sH(A:List (Int×Nat))(bk:Int->Bk):As:=Xt (λ_=>True) A bk
structure al2(p:Int->Prop)(D:List (Int×Value))(bd:Int->List Od)(w:Wt_)(F:NP_):Prop where
 q:∀n,p n->qT w (lx D n) (bd n)
 dj:∀n m x,p n->p m->aF (lx D n) x->aF (lx D m) x->n=m
 f:∀x,F x↔∃n,p n/\aF (lx D n) x
def TE(p:Int->Prop)(D:List (Int×Value))(bd:Int->List Od):As:=⟨λw F=>al2 p D bd w F,λh hb=>by
  obtain⟨n,hp,hx⟩:=(h.f _).1 hb;exact(h.q n hp).lt hx,λh m hg=>⟨λn hp=>(h.q n hp).mod m λx hx=>hg x ((h.f x).2 ⟨n,hp,hx⟩),h.dj,h.f⟩⟩
abbrev uI(D:List (Int×Value))(bd:Int->List Od):As:=TE (λ_=>True) D bd
structure pI(A:List (Int×Nat))(D:List (Int×Value))(C:List Ct)(bk:Int->Bk):Prop where
 dom:∀n,(lk A n).isSome=(cj C n).isSome
 dod:∀n,(lk D n).isSome=true->(cj C n).isSome=true
 nbk:∀n,lk A n=none->bk n=Bk.empty
abbrev OX(v c l mb md:Nat)(n:Int):As:=pt v [fO c,eP l,.map (some mb),.map (some md),gQ n] A6
abbrev OU(mb:Nat)(A:List (Int×Nat)):As:=mp eY fi mb A
abbrev OW(md:Nat)(D:List (Int×Value)):As:=mp eY yr md D
abbrev vo(v c l mb md:Nat)(A:List (Int×Nat))(D:List (Int×Value))(C:oR)(X:bJ)(bk:Int->Bk)(bd:Int->List Od)(n:Int)(L:List As):List As:=
 OX v c l mb md n::oz c C::mN l X::OU mb A::OW md D::sH A bk::uI D bd::L
abbrev vs(v c l mb md:Nat)(A:List (Int×Nat))(D:List (Int×Value))(S:bt)(L:List As):List As:=vo v c l mb md A D S.cal S.led S.bk S.bd S.next L
section
variable{L M:List As}{φ:WP}{A:List (Int×Nat)}{D:List (Int×Value)}{bk:Int->Bk}{bd:Int->List Od}{n:Int}{b v c l mb md:Nat}{B:Bk}{S:bt}{w:Wt_}
def RX:∀(l:List (As×(Nat->Prop))) {F2:NP_},(∀x∈l,x.1.P w x.2)->l.Pairwise (λx y=>∀b,x.2 b->¬y.2 b)->uy w L F2->(∀x∈l,∀b,x.2 b->¬F2 b)->∃F,uy w (l.map (·.1)++L) F/\∀b,F b↔(∃x∈l,x.2 b)\/F2 b
 | [],F2,_,_,h,_=>⟨F2,h,λb=>by simp⟩
 |x::l,F2,h1,g,o,j=>by
  obtain⟨m,p⟩:=bY.1 g;obtain⟨F,k,e⟩:=RX l (λy a=>h1 y (ag _ a)) p o λy a=>j y (ag _ a);refine⟨λb=>x.2 b\/F b,⟨x.2,F,h1 x aw,k,λb i f=>?_,λ_=>aG⟩,λb=>?_⟩
  ·rcases(e b).1 f with⟨y,a,d⟩|f
   ·exact m y a b i d
   ·grind
  ·show x.2 b\/F b↔_;rw[e];constructor
   ·rintro(h|⟨y,a,h⟩|h)
    ·grind
    ·grind
    ·exact .inr h
   ·rintro(⟨y,a,h⟩|h)
    ·rcases ax.1 a with rfl|a
     ·exact .inl h
     ·grind
    ·exact .inr (.inr h)
def GM(h:∀c l mb md A D,pI A D S.cal.l S.bk->Gs (vo v c l mb md A D S.cal S.led S.bk S.bd S.next L) φ):Gs (uM v S::L) φ:=⟨λw y=>by
 obtain⟨G,r,⟨c,l,mb,md,A,D,g,d,u⟩,a,z⟩:=Ss.cons.1 y;have k:∀{p:Pt} {b:Nat},g p b->¬r b:=λj=>z _ ((u _).2 ⟨_,j⟩);have ap:∀{p q:Pt} {b:Nat},p≠q->g p b->¬g q b:=λo hp t=>o (d.dj _ _ _ hp t);have i:∀{b:Nat},(∃n,True/\(lk A n).isSome=true/\g (.bk n) b)->∃n,g (.bk n) b:=λ⟨n,_,_,h⟩=>⟨n,h⟩
 have f:∀{b:Nat},(∃n,True/\aF (lx D n) b)->∃n,g (.bd n) b:=λ⟨n,_,h⟩=>⟨n,(d.fbd n _).2 h⟩
 obtain⟨F,C,-⟩:=RX (w:=w) (L:=L) [(OX v c l mb md S.next,g .v),(oz c S.cal,g .cal),(mN l S.led,g .led),(OU mb A,g .mb),(OW md D,g .md),(sH A S.bk,λb=>∃n,True/\(lk A n).isSome=true/\g (.bk n) b),(uI D S.bd,λb=>∃n,True/\aF (lx D n) b)] (F2:=r) (by
   simp only[ax,fQ,mP];rintro x (rfl|rfl|rfl|rfl|rfl|rfl|rfl)
   ·exact⟨d.blk,d.fv⟩
   ·exact d.cal
   ·exact d.led
   ·exact⟨d.mbk,d.fmb⟩
   ·exact⟨d.mbd,d.fmd⟩
   ·exact⟨λn=>g (.bk n),λn b _ e=>d.bk n b e,λn m x _ _ h1 a=>by simpa using d.dj _ _ _ h1 a,λ_=>aG⟩
   ·exact⟨λn _=>d.bd n,λn m x _ _ h1 a=>by simpa using d.dj _ _ _ ((d.fbd n x).2 h1) ((d.fbd m x).2 a),λ_=>aG⟩) (by
   simp only[bY,ax,fQ,mP,forall_eq_or_imp,forall_eq,false_imp_iff,implies_true,List.Pairwise.nil,and_true]
   refine⟨⟨λb=>ap (by simp),λb=>ap (by simp),λb=>ap (by simp),λb=>ap (by simp),λb h1 a=>(i a).elim λ_ h=>ap (by simp) h1 h,λb h1 a=>(f a).elim λ_ h=>ap (by simp) h1 h⟩,
    ⟨λb=>ap (by simp),λb=>ap (by simp),λb=>ap (by simp),λb h1 a=>(i a).elim λ_ h=>ap (by simp) h1 h,λb h1 a=>(f a).elim λ_ h=>ap (by simp) h1 h⟩,
    ⟨λb=>ap (by simp),λb=>ap (by simp),λb h1 a=>(i a).elim λ_ h=>ap (by simp) h1 h,λb h1 a=>(f a).elim λ_ h=>ap (by simp) h1 h⟩,
    ⟨λb=>ap (by simp),λb h1 a=>(i a).elim λ_ h=>ap (by simp) h1 h,λb h1 a=>(f a).elim λ_ h=>ap (by simp) h1 h⟩,
    ⟨λb h1 a=>(i a).elim λ_ h=>ap (by simp) h1 h,λb h1 a=>(f a).elim λ_ h=>ap (by simp) h1 h⟩,
    λb h1 a=>(i h1).elim λ_ h=>(f a).elim λ_ s=>ap (by simp) h s⟩) a (by
   simp only[ax,fQ,mP];rintro x (rfl|rfl|rfl|rfl|rfl|rfl|rfl) b j
   ·exact k j
   ·exact k j
   ·exact k j
   ·exact k j
   ·exact k j
   ·grind
   ·exact(f j).elim λ_ h=>k h)
 exact(h c l mb md A D ⟨d.dom,d.dod,λn E=>(d.nbk n E).1⟩).go w ⟨F,C⟩⟩
def vV{C:oR}{X:bJ}{k:Int}(u:pI A D C.l bk)(h:Gs (uM v ⟨C,X,bk,bd,k⟩::L) φ):Gs (vo v c l mb md A D C X bk bd k L) φ:=⟨λw y=>by
 obtain⟨F,t,G1,h1,⟨r,G2,h2,⟨F3,G3,Z,⟨j,G4,P,⟨F5,W,N,⟨F6,G6,⟨s,G⟩,⟨f,i,E,h8,U,H⟩,V,g6⟩,d5,g5⟩,d4,g4⟩,d3,g3⟩,d2,g2⟩,d1,g1⟩:=y
 let o:Pt->Nat->Prop:=λp=>match p with
  | .v=>t
  | .cal=>r
  | .led=>F3
  | .mb=>j
  | .md=>F5
  | .bk n=>λx=>(lk A n).isSome=true/\s n x
  | .bd n=>aF (lx D n)
 have Q:∀{n:Int} {x:Nat},(lk A n).isSome=true/\s n x->F6 x:=λh=>(G.f _).2 ⟨_,trivial,h⟩;have K:∀{n:Int} {x:Nat},aF (lx D n) x->f x:=λh=>(E.f _).2 ⟨_,trivial,h⟩;have J:∀{x:Nat},F6 x\/f x\/i x->W x:=λh=>(g6 _).2 (h.imp id (H _).2);have O:∀{x:Nat},F5 x\/F6 x\/f x\/i x->G4 x:=λh=>(g5 _).2 (h.imp id J);have R:∀{x:Nat},j x\/F5 x\/F6 x\/f x\/i x->G3 x:=λh=>(g4 _).2 (h.imp id O);have T:∀{x:Nat},F3 x\/j x\/F5 x\/F6 x\/f x\/i x->G2 x:=λh=>(g3 _).2 (h.imp id R);have e2:∀{x:Nat},r x\/F3 x\/j x\/F5 x\/F6 x\/f x\/i x->G1 x:=λh=>(g2 _).2 (h.imp id T)
 have key:∀p x,o p x->(t x\/r x\/F3 x\/j x\/F5 x\/F6 x\/f x):=λp x d=>by
  cases p with
  |v=>exact .inl d
  |cal=>exact .inr (.inl d)
  |led=>exact .inr (.inr (.inl d))
  |mb=>exact .inr (.inr (.inr (.inl d)))
  |md=>exact .inr (.inr (.inr (.inr (.inl d))))
  |bk n=>exact .inr (.inr (.inr (.inr (.inr (.inl (Q d))))))
  |bd n=>exact .inr (.inr (.inr (.inr (.inr (.inr (K d))))))
 have no:∀x,(t x->¬(r x\/F3 x\/j x\/F5 x\/F6 x\/f x\/i x))/\(r x->¬(F3 x\/j x\/F5 x\/F6 x\/f x\/i x))/\(F3 x->¬(j x\/F5 x\/F6 x\/f x\/i x))/\(j x->¬(F5 x\/F6 x\/f x\/i x))/\(F5 x->¬(F6 x\/f x\/i x))/\(F6 x->¬(f x\/i x))/\(f x->¬i x):=λx=>
  ⟨λh g=>d1 x h (e2 g),λh g=>d2 x h (T g),λh g=>d3 x h (R g),λh g=>d4 x h (O g),λh g=>d5 x h (J g),λh g=>V x h ((H x).2 g),λh g=>U x h g⟩
 let a:Pt->Nat:=λp=>match p with
  | .v=>0| .cal=>1| .led=>2| .mb=>3| .md=>4| .bk _=>5| .bd _=>6
 have at_:∀p x,o p x->(a p=0/\t x)\/(a p=1/\r x)\/(a p=2/\F3 x)\/(a p=3/\j x)\/(a p=4/\F5 x)\/(a p=5/\F6 x)\/(a p=6/\f x):=λp x d=>by
  cases p with
  |v=>exact .inl ⟨rfl,d⟩
  |cal=>exact .inr (.inl ⟨rfl,d⟩)
  |led=>exact .inr (.inr (.inl ⟨rfl,d⟩))
  |mb=>exact .inr (.inr (.inr (.inl ⟨rfl,d⟩)))
  |md=>exact .inr (.inr (.inr (.inr (.inl ⟨rfl,d⟩))))
  |bk n=>exact .inr (.inr (.inr (.inr (.inr (.inl ⟨rfl,Q d⟩)))))
  |bd n=>exact .inr (.inr (.inr (.inr (.inr (.inr ⟨rfl,K d⟩)))))
 have dj:∀p q x,o p x->o q x->p=q:=λp q x hp z=>by
  have hi:a p=a q:=by
   have b:=at_ q x z;grind
  cases p<;>cases q<;>first|rfl|cases hi|skip
  ·rename_i n m
   rw[G.dj n m x trivial trivial hp.2 z.2]
  ·rename_i n m
   rw[E.dj n m x trivial trivial hp z]
 refine h.go w (Ss.cons.2 ⟨λx=>∃p,o p x,i,⟨c,l,mb,md,A,D,o,⟨⟨h1.1,h2,Z,P.1,N.1,λn b e=>?_,λn e=>⟨u.nbk n e,λx d=>?_⟩,λn=>E.q n trivial,h1.2,P.2,N.2,λn x=>aG,dj⟩,u.dom,u.dod⟩,λ_=>aG⟩,h8,λx ⟨p,d⟩ I=>?_⟩)
 ·have:=G.q n b trivial e
  have e' :(λx=>(lk A n).isSome=true/\s n x)=s n:=by
   funext x;rw[e];simp
  show gg w b (λx=>(lk A n).isSome=true/\s n x) _;rw[e'];exact this
 ·grind
 ·obtain⟨n1,n2,n3,n4,n5,n6,Y⟩:=no x;rcases key p x d with k|k|k|k|k|k|k
  ·grind
  ·grind
  ·grind
  ·grind
  ·grind
  ·exact n6 k (.inr I)
  ·exact Y k I⟩
end
def Gs.ak{L:List As}{N R:WP}{X:Nat->WP}(h:Gs L N):Gs L (jR N R X none):=⟨λw x=>h.go w x⟩
def Gs.akr{L:List As}{N R:WP}{X:Nat->WP}(h:Gs L R):Gs L (jR N R X (some .ret)):=⟨λw x=>h.go w x⟩
structure Gg(gv:Vt_)(xs:List (List Value))(L:List As)(φ:WP):Prop where
 go:∀w,Ss w L->pE gv xs w->φ w
def OY(d:Nat):As:=⟨λw F=>hp w d=some (.deferred (some []))/\∀x,F x↔x=d,λh hb=>by rw[(h.2 _).1 hb];exact aB h.1,λh m hg=>⟨m.keep h.1 (hg d ((h.2 d).2 rfl)),h.2⟩⟩
def x7(d:Nat)(r:Loop):As:=⟨λw F=>hp w d=some (.loop r)/\∀x,F x↔x=d,λh hb=>by rw[(h.2 _).1 hb];exact aB h.1,λh m hg=>⟨m.keep h.1 (hg d ((h.2 d).2 rfl)),h.2⟩⟩
section
variable{L L0 M:List As}{w:Wt_}{k0:WP}
def Gs.tw{d:Nat}(h:Gs L k0)(p:eG L0 (OY d::L):=by exact fR):Gs L0 (Tw [d] k0):=⟨λw ⟨F,x⟩=>by
 obtain⟨i,a,h1,c,f,j⟩:=(p.out w F).1 x;refine⟨h1.1,h.go _ ⟨a,c.md ((aR.refl (λy=>y=d) w).putObj (b:=d) (.inl rfl) _) λb g e=>f b ((h1.2 b).2 e) g⟩⟩⟩
def Gs.twc{d:Nat}{ds:List Nat}(h:Gs L (Tw ds k0))(p:eG L0 (OY d::L):=by exact fR):Gs L0 (Tw (d::ds) k0):=⟨λw ⟨F,x⟩=>by
 obtain⟨i,a,h1,c,f,j⟩:=(p.out w F).1 x;exact⟨h1.1,h.go _ ⟨a,c.md ((aR.refl (λy=>y=d) w).putObj (b:=d) (.inl rfl) _) λb g e=>f b ((h1.2 b).2 e) g⟩⟩⟩
def rr:∀{L M:List As} {F:NP_},uy w (L++M) F->∃c d,uy w L c/\uy w M d/\(∀b,c b->¬d b)/\∀b,F b↔c b\/d b
 | [],M,F,h=>⟨λ_=>False,F,λ_ h=>h,h,λ_ h=>h.elim,λb=>⟨.inr,λh=>h.elim False.elim id⟩⟩
 |A::L,M,F,⟨c,d,h1,f,j,i⟩=>by
  obtain⟨F3,g,k1,k2,k3,k4⟩:=rr f;refine⟨λb=>c b\/F3 b,g,⟨c,F3,h1,k1,λb a e=>j b a ((k4 b).2 (.inl e)),λ_=>aG⟩,k2,λb a e=>?_,λb=>?_⟩
  ·rcases a with a|a
   ·grind
   ·exact k3 b a e
  ·rw[i,k4,or_assoc]
def t7:∀{L M:List As} {a F2:NP_},uy w L a->uy w M F2->(∀b,a b->¬F2 b)->∃F,uy w (L++M) F/\∀b,F b↔a b\/F2 b
 | [],M,a,F2,h1,d,_=>⟨F2,d,λb=>⟨.inr,λh=>h.elim (λh=>(h1 b h).elim) id⟩⟩
 |A::L,M,a,F2,⟨F3,j,k1,k2,k3,k4⟩,d,i=>by
  obtain⟨F,g,f⟩:=t7 k2 d λb e=>i b ((k4 b).2 (.inr e));refine⟨_,⟨F3,F,k1,g,λb e c=>?_,λ_=>aG⟩,λb=>?_⟩
  ·rcases(f b).1 c with c|c
   ·exact k3 b e c
   ·grind
  ·rw[f,k4,or_assoc]
def Li{A:List As}{W d:Wt_}{X:NP_}{l q:Nat}{r:Loop}{cs:LV_}{T:TypeId}(B:hp W l=some (.loop r))(h:Ss d (pt q cs T::(A++x7 l r::Hi W (λy=>X y\/y=l\/y=q)::[]))):
  ∃o,uy d A o/\aR (λy=>X y\/y=q) W d/\hp d q=some (.cells cs.toArray T (0,0))/\∀b,o b->(X b\/W.heap.size<=b)/\b<d.heap.size:=by
 obtain⟨F,K,FR,⟨H,I⟩,x,v,O⟩:=h;obtain⟨C,t,h1,⟨F3,J,⟨D,k⟩,⟨F5,F6,⟨u,m⟩,G,N,z⟩,P,i⟩,f,j⟩:=rr x
 have p:∀b,t b↔b=l\/(b<W.heap.size/\¬(X b\/b=l\/b=q)):=λb=>by
  rw[i,k,z,u];constructor
  ·rintro(h|h|h)
   ·exact .inl h
   ·exact .inr h
   ·exact absurd h (G b)
  ·rintro(h|h)
   ·exact .inl h
   ·exact .inr (.inl h)
 refine⟨C,h1,⟨m.size,m.out,m.os,λb c n=>?_⟩,H,λb c=>⟨aQ λs=>?_,h1.lt c⟩⟩
 ·by_cases a:b=l
  ·subst a;exact D.trans B.symm
  ·exact m.blk b c λE=>E.elim (λh=>n (.inl h)) λh=>h.elim a λh=>n (.inr h)
 ·have a:b≠l:=λe=>f b c ((p b).2 (.inl e));have g:b≠q:=λe=>v b ((I b).2 e) ((j b).2 (.inl c));refine f b c ((p b).2 (.inr ⟨aQ λn=>s (.inr qZ),?_⟩));rintro(h|h|h)
  ·exact s (.inl h)
  ·exact a h
  ·exact g h
def WG{A:List As}{W:Wt_}{X:NP_}{l q:Nat}{r:Loop}{cs:LV_}{T:TypeId}(g:hp W l=some (.loop r))(f:hp W q=some (.cells cs.toArray T (0,0)))(h:uy W A X)(h1:¬X l)(d:¬X q)(i:q≠l):
  Ss W (pt q cs T::(A++x7 l r::Hi W (λy=>X y\/y=l\/y=q)::[])):=by
 have s:uy W (x7 l r::Hi W (λy=>X y\/y=l\/y=q)::[]) (λb=>b=l\/(b<W.heap.size/\¬(X b\/b=l\/b=q))):=
  ⟨λb=>b=l,_,⟨g,λ_=>aG⟩,⟨_,λ_=>False,⟨λ_=>aG,aR.refl _ _⟩,λ_ h=>h,d9,λb=>(or_iff_left id).symm⟩,λb c a=>a.2 (.inr (.inl c)),λ_=>aG⟩
 obtain⟨F,k1,k2⟩:=t7 h s λb c a=>a.elim (λe=>h1 (e▸c)) λa=>a.2 (.inl c);refine Ss.cons.2 ⟨λy=>y=q,F,⟨f,λ_=>aG⟩,k1,λb c a=>?_⟩;subst c;rcases(k2 b).1 a with h|h|h
 ·exact d h
 ·exact i h
 ·grind
end
section
variable{gv:Vt_}{α β γ:Type}{xs:List α}{fv:α->Value}{fc:α->List Value}{T:TypeId}{L L0:List As}{rnd:Nat->List Value->WP->(Code->WP)->WP}{asg:Value->(Value->WP)->WP}{body:Nat->Value->WP->(Code->WP)->WP}{after:List Nat->Option Code->WP}
def Asg(T:TypeId)(fv:α->Value)(fc:α->List Value)(xs:List α)(asg:Value->(Value->WP)->WP):Prop:=
 ∀a∈xs,∀(W:Wt_) (k:Value->WP),(∀w2,hp w2 W.heap.size=some (.cells (fc a).toArray T (0,0))->M0 W w2->k (bO W.heap.size 0) w2)->asg (fv a) k W
def Gg.rf(hR:∀l x j f,rnd l x j f=asg (x.getD 0 undef) λv=>Gw l (body l v j f))(P:Asg T fv fc xs asg)
  (I:Nat->β->List As->List As)(E:γ->List As->List As)(U:∀i b M,I i b M=I i b []++M)(hE:∀g M,E g M=E g []++M)(p:Nat->β->Prop)(pe:Code->γ->Prop)(Y:β)(h0:p 0 Y)
  (t:∀i (hi:i<xs.length) b,p i b->∀l r q M j f,(∀R cs,p (i+1) R->Gs (pt q cs T::I (i+1) R (x7 l r::M)) j)->(∀c g cs,pe c g->Gs (pt q cs T::E g (x7 l r::M)) (f c))->Gs (pt q (fc xs[i]) T::I i b (x7 l r::M)) (body l (bO q 0) j f))
  (N:∀b d,p xs.length b->Gs (OY d::I xs.length b L) (after [d] none))(B:∀c g d,pe c g->Gs (OY d::E g L) (after [d] (some c)))
  (Z:eG L0 (I 0 Y L):=by exact iP):Gg gv (xs.map λa=>[fv a]) L0 (Rw pQ none gv 1 rnd after):=⟨λw y ht=>by
 obtain⟨F,z⟩:=y;have z:=(Z.out w F).1 z;rw[U]at z;obtain⟨S,FL,s1,s2,s3,s4⟩:=rr z;show FO pQ none gv w 1 _ after
 have e:(λl x w j f=>rnd l x j f w)=(λ(l:Nat) (x:LV_) (W:Wt_) (KN:World->Prop) (KJ:Code->World->Prop)=>(λ(x:Vt_) (W:Wt_) (K:Value->World->Prop)=>asg x K W) (x.getD 0 undef) W λv w2=>qt l w2 λw3=>(λl v W j f=>body l v j f W) l v w3 KN KJ):=by
  funext l x w j f;rw[hR];rfl
 rw[e]
 have back:∀{A:List As} {X:NP_} {W:Wt_} {d:Nat},uy W A X->aR S w W->hp W d=some (.deferred (some []))->(∀b,X b->b<W.heap.size/\(S b\/d+1<b))->d=w.heap.size->Ss W (OY d::(A++L)):=λ{A X W d} h m O o hdd=>by
  have k2:=s2.md m λb n C=>s3 b C n
  obtain⟨F',k3,k4⟩:=t7 h k2 λb n C=>by
   rcases(o b n).2 with s|s
   ·exact s3 b s C
   ·have:=s2.lt C;omega
  refine Ss.cons.2 ⟨λy=>y=d,F',⟨O,λ_=>aG⟩,k3,λb n C=>?_⟩;subst n;rcases(k4 b).1 C with s|s
  ·rcases(o b s).2 with D|D
   ·have:=s1.lt D;omega
   ·omega
  ·have:=s2.lt s;omega
 refine KE (asg:=λ(x:Vt_) (W:Wt_) (K:Value->World->Prop)=>asg x K W) (body:=λl v W j f=>body l v j f W) (Pv:=λa v q W=>v=.pointer (some ⟨q,0,none⟩)/\hp W q=some (.cells (fc a).toArray T (0,0))) ht (λa ha W K hK=>P a ha W K λw2 h1 J=>hK w2 _ ⟨rfl,h1⟩ J) (λa v q W k H h m Q=>⟨h.1,m.keep h.2 Q⟩)
  (λX i W=>∃b,p i b/\uy W (I i b []) X) (λc X W=>∃g,pe c g/\uy W (E g []) X) (λX i W k H ⟨b,h1,J⟩ m Q=>⟨b,h1,J.md m Q⟩) (λc X W k H ⟨g,h1,J⟩ m Q=>⟨g,h1,J.md m Q⟩) (X0:=S) (λb n=>s1.lt n) ⟨Y,h0,s1⟩ ?_ ?_ ?_
 ·rintro X i hi W q v ⟨b,n,G⟩ m o hq1 hq2 ⟨rfl,hq⟩ ⟨r,V⟩ KN KJ hKN hKJ;obtain⟨l,hl⟩:=di (w.heap.size+1);rw[<-hl]at o hq1 V|-;have hqX:¬X q:=λh=>by have:=(o q h).1;omega
  have hlX:¬X l:=λh=>by
   rcases(o l h).2 with s|s
   ·have:=s1.lt s;omega
   ·omega
  have hu:∀(u:NP_) (k:Wt_),aR (λy=>X y\/y=q) W k->aR (λb=>X b\/q<=b) W k:=λu k m=>m.mono λb _ h=>h.imp id λe=>by omega
  refine(t i hi b n l r q [Hi W (λy=>X y\/y=l\/y=q)] KN KJ (λR cs hb' =>⟨λk h=>?_⟩) λc g cs hg=>⟨λk h=>?_⟩).go W ?_
  ·rw[U]at h;obtain⟨u,k1,k2,k3,k4⟩:=Li V h;exact hKN u k ⟨R,hb',k1⟩ (hu u k k2) k4
  ·rw[hE]at h;obtain⟨u,k1,k2,k3,k4⟩:=Li V h;exact hKJ c u k ⟨g,hg,k1⟩ (hu u k k2) k4
  ·rw[U];exact WG V hq G hlX hqX qZ
 ·rintro X W d rfl ⟨b,n,G⟩ m O o;have:=(N b w.heap.size n).go W;rw[U]at this;exact this (back G m O o rfl)
 ·rintro c X W d rfl ⟨g,hg,G⟩ m O o;have:=(B c g w.heap.size hg).go W;rw[hE]at this;exact this (back G m O o rfl)⟩
def HK{A:List As}{W d:Wt_}{X:NP_}{q:Nat}{cs:LV_}{T:TypeId}(g:hp W q=some (.cells cs.toArray T (0,0)))(h:Ss d (pt q cs T::(A++Hi W (λy=>X y\/y=q)::[]))):
  ∃e,uy d A e/\aR X W d/\∀b,e b->(X b\/W.heap.size<=b)/\b<d.heap.size:=by
 obtain⟨F,s,FR,⟨r,C⟩,x,u,z⟩:=h;obtain⟨n,f,h1,⟨F5,F6,⟨j,m⟩,B,t,l⟩,k,i⟩:=rr x;have v:∀b,b<W.heap.size/\¬(X b\/b=q)->f b:=λb a=>(l b).2 (.inl ((j b).2 a));refine⟨n,h1,⟨m.size,m.out,m.os,λb a p=>?_⟩,λb a=>⟨aQ λD=>?_,h1.lt a⟩⟩
 ·by_cases c:b=q
  ·subst c;exact r.trans g.symm
  ·exact m.blk b a λo=>o.elim p c
 ·grind
def Gg.rn{l0:Nat}{r0:Loop}(hR:∀l x j f,rnd l x j f=asg (x.getD 0 undef) λv=>Gw l (body l v j f))(G:Asg T fv fc xs asg)
  (I:Nat->β->List As->List As)(E:γ->List As->List As)(P:∀i b M,I i b M=I i b []++M)(hE:∀g M,E g M=E g []++M)(p:Nat->β->Prop)(pe:Code->γ->Prop)(Q:β)(h0:p 0 Q)
  (o:∀i (hi:i<xs.length) b,p i b->∀l q M j f,(∀N,p (i+1) N->Gs (pt q (fc xs[i]) T::I (i+1) N M) j)->(∀c g,pe c g->Gs (pt q (fc xs[i]) T::E g M) (f c))->Gs (pt q (fc xs[i]) T::I i b M) (body l (bO q 0) j f))
  (C:∀b,p xs.length b->Gs (I xs.length b (x7 l0 r0::L)) (after [] none))(r:∀c g,pe c g->Gs (E g (x7 l0 r0::L)) (after [] (some c)))
  (R:eG L0 (I 0 Q (x7 l0 r0::L)):=by exact iP):Gg gv (xs.map λa=>[fv a]) L0 (Rw pQ (some l0) gv 1 rnd after):=⟨λw y ht=>by
 obtain⟨F,z⟩:=y;have z:=(R.out w F).1 z;rw[P]at z;obtain⟨D,FL,s1,O,s3,s4⟩:=rr z;obtain⟨-,-,⟨hr0,-⟩,-⟩:=O;obtain⟨D,FL,s1,O,s3,s4⟩:=rr z;show FO pQ (some l0) gv w 1 _ after
 have e:(λl x w j f=>rnd l x j f w)=(λ(l:Nat) (x:LV_) (W:Wt_) (U:World->Prop) (KJ:Code->World->Prop)=>(λ(x:Vt_) (W:Wt_) (K:Value->World->Prop)=>asg x K W) (x.getD 0 undef) W λv w2=>qt l w2 λw3=>(λl v W j f=>body l v j f W) l v w3 U KJ):=by
  funext l x w j f;rw[hR];rfl
 rw[e]
 have back:∀{A:List As} {X:NP_} {W:Wt_},uy W A X->aR D w W->(∀b,X b->b<W.heap.size/\(D b\/w.heap.size<b))->Ss W (A++x7 l0 r0::L):=λ{A X W} h m n=>by
  have k2:=O.md m λb d k=>s3 b k d
  obtain⟨F',k3,k4⟩:=t7 h k2 λb d k=>by
   rcases(n b d).2 with h' |h'
   ·exact s3 b h' k
   ·have:=O.lt k;omega
  exact⟨F',k3⟩
 refine Lj (asg:=λ(x:Vt_) (W:Wt_) (K:Value->World->Prop)=>asg x K W) (body:=λl v W j f=>body l v j f W) (Pv:=λa v q W=>v=.pointer (some ⟨q,0,none⟩)/\hp W q=some (.cells (fc a).toArray T (0,0))) ⟨r0,hr0⟩ ht (λa ha W K hK=>G a ha W K λw2 h1 B=>hK w2 _ ⟨rfl,h1⟩ B) (λa v q W t H h m J=>⟨h.1,m.keep h.2 J⟩)
  (λX i W=>∃b,p i b/\uy W (I i b []) X) (λc X W=>∃g,pe c g/\uy W (E g []) X) (λX i W t H ⟨b,h1,B⟩ m J=>⟨b,h1,B.md m J⟩) (λc X W t H ⟨g,h1,B⟩ m J=>⟨g,h1,B.md m J⟩) (X0:=D) (λb d=>s1.lt d) ⟨Q,h0,s1⟩ ?_ ?_ ?_
 ·rintro X i hi W q v ⟨b,d,u⟩ m n hq1 hq2 ⟨rfl,hq⟩ U KJ Y hKJ;have S:¬X q:=λh=>by have:=(n q h).1;omega
  refine(o i hi b d w.heap.size q [Hi W (λy=>X y\/y=q)] U KJ (λN Z=>⟨λt h=>?_⟩) λc g V=>⟨λt h=>?_⟩).go W ?_
  ·rw[P]at h;obtain⟨X',k1,k2,k4⟩:=HK hq h;exact Y X' t ⟨N,Z,k1⟩ k2 k4
  ·rw[hE]at h;obtain⟨X',k1,k2,k4⟩:=HK hq h;exact hKJ c X' t ⟨g,V,k1⟩ k2 k4
  ·rw[P];have s:uy W (Hi W (λy=>X y\/y=q)::[]) (λb=>b<W.heap.size/\¬(X b\/b=q)):=⟨_,λ_=>False,⟨λ_=>aG,aR.refl _ _⟩,λ_ h=>h,d9,λb=>(or_iff_left id).symm⟩
   obtain⟨F',k1,k2⟩:=t7 u s λb d k=>k.2 (.inl d);refine Ss.cons.2 ⟨λy=>y=q,F',⟨hq,λ_=>aG⟩,k1,λb d k=>?_⟩;subst d;rcases(k2 b).1 k with h|h
   ·exact S h
   ·exact h.2 (.inr rfl)
 ·rintro X W ⟨b,d,u⟩ m n;have:=(C b d).go W;rw[P]at this;exact this (back u m n)
 ·rintro c X W ⟨g,V,u⟩ m n;have:=(r c g V).go W;rw[hE]at this;exact this (back u m n)⟩
def Ry{A:List As}{W a:Wt_}{X:NP_}(h:Ss a (A++Hi W X::[])):∃d,uy a A d/\aR X W a/\∀b,d b->(X b\/W.heap.size<=b)/\b<a.heap.size:=by
 obtain⟨F,x⟩:=h;obtain⟨k,l,h1,⟨F5,F6,⟨i,m⟩,p,n,j⟩,c,g⟩:=rr x;exact⟨k,h1,m,λb e=>⟨aQ λf=>c b e ((j b).2 (.inl ((i b).2 ⟨aQ λo=>f (.inr qZ),λh=>f (.inl h)⟩))),h1.lt e⟩⟩
def Gg.r0{l0:Nat}{r0:Loop}{bd:Nat->WP->(Code->WP)->WP}(hR:∀l x c f,rnd l x c f=Gw l (bd l c f))
  (I:Nat->β->List As->List As)(r:∀i b M,I i b M=I i b []++M)(p:Nat->β->Prop)(t:β)(h0:p 0 t)
  (g:∀i,i<xs.length->∀b,p i b->∀l M c f,(∀n,p (i+1) n->Gs (I (i+1) n M) c)->Gs (I i b M) (bd l c f))
  (k:∀b,p xs.length b->Gs (I xs.length b (x7 l0 r0::L)) (after [] none))
  (u:eG L0 (I 0 t (x7 l0 r0::L)):=by exact iP):Gg gv (xs.map λa=>[fv a]) L0 (Rw pQ (some l0) gv 1 rnd after):=⟨λw y U=>by
 obtain⟨F,z⟩:=y;have z:=(u.out w F).1 z;rw[r]at z;obtain⟨J,S,s1,o,N,Z⟩:=rr z;obtain⟨-,-,⟨G,-⟩,-⟩:=o;obtain⟨J,S,s1,o,N,Z⟩:=rr z;show FO pQ (some l0) gv w 1 _ after
 have e:(λl x w c f=>rnd l x c f w)=(λ(l:Nat) (x:LV_) (W:Wt_) (A:World->Prop) (E:Code->World->Prop)=>(λ(x:Vt_) (W:Wt_) (K:Value->World->Prop)=>K x W) (x.getD 0 undef) W λv w2=>qt l w2 λV=>(λl v W c f=>bd l c f W) l v V A E):=by
  funext l x w c f;rw[hR];rfl
 rw[e]
 refine Lj (asg:=λ(x:Vt_) (W:Wt_) (K:Value->World->Prop)=>K x W) (body:=λl v W c f=>bd l c f W) (Pv:=λ_ _ _ _=>True) ⟨r0,G⟩ U (λa ha W K hK=>hK W _ trivial (aR.refl _ W)) (λ_ _ _ _ _ _ _ _ _=>trivial)
  (λX i W=>∃b,p i b/\uy W (I i b []) X) (λ_ _ _=>False) (λX i W R H ⟨b,h1,h2⟩ m hn=>⟨b,h1,h2.md m hn⟩) (λ_ _ _ _ _ h=>h.elim) (X0:=J) (λb d=>s1.lt d) ⟨t,h0,s1⟩ ?_ ?_ (λ_ _ _ h=>h.elim)
 ·rintro X i hi W q v ⟨b,d,C⟩ m P hq1 Y - A E B hKJ;refine(g i hi b d w.heap.size [Hi W X] A E (λn D=>⟨λR h=>?_⟩)).go W ?_
  ·rw[r]at h;obtain⟨X',k1,k2,k4⟩:=Ry h;exact B X' R ⟨n,D,k1⟩ k2 k4
  ·rw[r];have s:uy W (Hi W X::[]) (λb=>b<W.heap.size/\¬X b):=⟨_,λ_=>False,⟨λ_=>aG,aR.refl _ _⟩,λ_ h=>h,d9,λb=>(or_iff_left id).symm⟩
   obtain⟨O,k1,-⟩:=t7 C s λb d j=>j.2 d;exact⟨O,k1⟩
 ·rintro X W ⟨b,d,C⟩ m P;have:=(k b d).go W;rw[r]at this;have k2:=o.md m λb d j=>N b j d
  obtain⟨O,k3,-⟩:=t7 C k2 λb d j=>by
   rcases(P b d).2 with Q|Q
   ·exact N b Q j
   ·have:=o.lt j;omega
  exact this ⟨O,k3⟩⟩
end
section
variable{P:Program}{A B:As}{L M:List As}{k:Value->WP}{v:Vt_}{φ:(Value->WP)->WP}
def Gs.rd1(f:∀w F,Ss w L->A.P w F->∀K:aZ,(∀d,M0 w d->K v d)->φ K w)(e:Gs L (k v))(p:eG L (A::M)):Gs L (φ k):=
 ⟨λw y=>(iK p y).elim λF q=>f w F y q k λd m=>e.go d (y.md0 m)⟩
def Gs.up1(i:∀w F,A.P w F->∀K:aZ,(∀d,B.P d F->aR F w d->K v d)->φ K w)(e:Gs (B::M) (k v))(p:eG L (A::M)):Gs L (φ k):=
 Gs.old (A:=A) (val:=λ_:Unit=>v) (p:=λ_=>True) (B:=λ_=>B) (λw F _ j K f=>i w F j K λd g m=>f () d F trivial g m λy h=>.inl h) (λ_ _=>e) p
end
section
variable{L M:List As}{k:Value->WP}{c l b:Nat}{C:oR}{X:bJ}{B:Bk}{n a m price:Int}
def sj(d:Gs L (k (.tuple #[jX (X.getV n).1,gI (X.getV n).2])))(p:eG L (mN l X::M):=by exact fR):Gs L (Cw pQ 56 #[eP l,gU n] k):=Gs.rd1 (λw F _ q K h=>EG q h) d p
def sK(d:Gs L (k (nh (X.position n a))))(p:eG L (mN l X::M):=by exact fR):Gs L (Cw pQ 222 #[eP l,gU n,gU a] k):=Gs.rd1 (λw F _ q K h=>uZ q h) d p
def EF{a:Ac}(e:0<=a.num/\a.num<4294967296)(d:Gs (mN l (X.set a).2::M) (k (gI (X.set a).1)))(p:eG L (mN l X::M):=by exact fR):Gs L (Cw pQ 145 #[eP l,jX a] k):=Gs.up1 (λw F q K h=>XB q e h) d p
def JU(e:0<=n/\n<4294967296)(d:Gs (mN l (X.deposit n m).2::M) (k (gI (X.deposit n m).1)))(p:eG L (mN l X::M):=by exact fR):Gs L (Cw pQ 132 #[eP l,gU n,gI m] k):=Gs.up1 (λw F q K h=>Km q e h) d p
def Ij(e:0<=n/\n<4294967296)(d:Gs (mN l (X.withdraw n m).2::M) (k (gI (X.withdraw n m).1)))(p:eG L (mN l X::M):=by exact fR):Gs L (Cw pQ 199 #[eP l,gU n,gI m] k):=Gs.up1 (λw F q K h=>Ge q e h) d p
def Iq{c b s d x:Int}(f:0<=c/\c<4294967296)(e:Gs (mN l (X.trade c b s d x).2::M) (k (gI (X.trade c b s d x).1)))(p:eG L (mN l X::M):=by exact fR):Gs L (Cw pQ 273 #[eP l,gU c,gU b,gU s,gI d,gI x] k):=Gs.up1 (λw F q K h=>SY q f h) e p
def Az(d:Gs L (k (.tuple #[.agg (dA (dO C.l n).1).toArray,gI (dO C.l n).2])))(p:eG L (oz c C::M):=by exact fR):Gs L (Cw pQ 143 #[fO c,gU n] k):=Gs.rd1 (λw F _ q K h=>LZ q h) d p
def S3(d:Gs (oz c (fa C).2::M) (k (gI (fa C).1)))(p:eG L (oz c C::M):=by exact fR):Gs L (Cw pQ 204 #[fO c] k):=Gs.up1 (λw F q K h=>Pg q h) d p
def QL{on:Bool}(d:Gs (oz c (jS C n on).2::M) (k (gI (jS C n on).1)))(p:eG L (oz c C::M):=by exact fR):Gs L (Cw pQ 135 #[fO c,gU n,.bool on] k):=Gs.up1 (λw F q K h=>QP q h) d p
def G0(d:Gs (oz c (fS C n price).2::M) (k (gI (fS C n price).1)))(p:eG L (oz c C::M):=by exact fR):Gs L (Cw pQ 136 #[fO c,gU n,gI price] k):=Gs.up1 (λw F q K h=>Gk q h) d p
def Kl(d:Gs (oz c (fG C n).2::M) (k (gI (fG C n).1)))(p:eG L (oz c C::M):=by exact fR):Gs L (Cw pQ 209 #[fO c,gU n] k):=Gs.up1 (λw F q K h=>Kn q h) d p
def FX(e:Gs (Cy b (fq B n).2.1::M) (k (.tuple #[kx (fq B n).2.2,gI (fq B n).1])))(p:eG L (Cy b B::M):=by exact fR):Gs L (Cw pQ 212 #[fi b,gQ n] k):=
 Gs.old (A:=Cy b B) (val:=λ_:Unit=>_) (p:=λ_=>True) (B:=λ_=>Cy b (fq B n).2.1) (λw F _ q K h=>xu q λf g i j d=>h () g f trivial i j d) (λ_ _=>e) p
def SQ{g:Gt}(d:g.Fit)(e:Gs L (k (gI g.check))):Gs L (Cw pQ 271 #[.agg (ze g).toArray] k):=⟨λw y=>QT d λf m=>e.go f (y.md0 m)⟩
def Ma(i:∀x y,Gs (Cy b (jk B a).1::mE (.slice x (jk B a).2.length y) (jk B a).2::M) (k (.slice x (jk B a).2.length y)))(p:eG L (Cy b B::M):=by exact fR):Gs L (Cw pQ 210 #[fi b,gU a] k):=
 Gs.old (A:=Cy b B) (val:=λx:Option Addr×Nat=>.slice x.1 (jk B a).2.length x.2) (p:=λ_=>True) (B:=λx=>(Cy b (jk B a).1).mul (mE (.slice x.1 (jk B a).2.length x.2) (jk B a).2)) (λw F _ q K h=>T5 q λe sl g r o j f nn=>by
  obtain⟨x,y,rfl,-⟩:=o.isSl;exact h (x,y) g (λy=>e y\/aF _ y) trivial ⟨e,aF _,r,⟨o,λ_=>aG⟩,λy d s=>(nn y s).2 d,λ_=>aG⟩ j λy d=>d.elim (f y) λh=>.inr (nn y h).1) (λx _=>(i x.1 x.2).pk O3) p
def AC(e:∀d,Gg d (C.l.map λk=>[.agg (dA k).toArray]) L (k d))(p:eG L (oz c C::M):=by exact fR):Gs L (Cw pQ 51 #[fO c] k):=⟨λw y=>(iK p y).elim λF q=>Ez q λd f t m=>(e d).go f (y.md0 m) t⟩
def Vt{A:List (Int×Nat)}{bk:Int->Bk}(g:lk A n=some b)(e:∀d,Gg d ((bk n).all.map λo=>[kx o]) L (k d))(p:eG L (sH A bk::M):=by exact fR):Gs L (Cw pQ 61 #[fi b] k):=⟨λw y=>(iK p y).elim λF ⟨h,q⟩=>AF (q.q n b trivial g) λd f t m=>(e d).go f (y.md0 m) t⟩
def zv(e:∀d,Gg d (X.all.map λa=>[jX a]) L (k d))(p:eG L (mN l X::M):=by exact fR):Gs L (Cw pQ 59 #[eP l] k):=⟨λw y=>(iK p y).elim λF q=>sQ q λd f t m=>(e d).go f (y.md0 m) t.m⟩
def IP(g:X.held.length<4294967295)(e:∀d,Gg d ((X.holders n).map λa=>[nh a]) L (k d))(p:eG L (mN l X::M):=by exact fR):Gs L (Cw pQ 60 #[eP l,gU n] k):=⟨λw y=>(iK p y).elim λF q=>wQ q g λd f t m=>(e d).go f (y.md0 m) t.m⟩
def TA(g:X.held.length<4294967295)(e:∀d,Gg d ((X.ofA n).map λa=>[nh a]) L (k d))(p:eG L (mN l X::M):=by exact fR):Gs L (Cw pQ 207 #[eP l,gU n] k):=⟨λw y=>(iK p y).elim λF q=>Tq q g λd f t m=>(e d).go f (y.md0 m) t.m⟩
end
end Go.Proofs
namespace Go.Proofs
open Go Go.Vc
section
variable{P:Program}{L M:List As}{k:Value->WP}{s:Vt_}{t T:TypeId}{α:Type}{f:α->List Value}{vf:α->Value}{sz i n:Nat}{l:List α}
def Gs.it(z:P.underlying t=some (.slice T))(E:P.cellsOf T=sz+1)(u:∀x,(f x).length=sz+1)(h:∀x w b d,At w b d (f x)->(iL T (bO b d)).run P w=.ok (vf x) w)
  (B:∀w,Ss w L->Rd w (sz+1) s n (l.flatMap f))(m:n=l.length)(hi:i<l.length)(o:Gs L (k (vf l[i]))):Gs L (Vw P (iX t s (gI (i:Int))) λp=>Vw P (iL T p) k):=⟨λw y=>by
 obtain⟨b,d,q,g,j,r⟩:=(B w y).item u hi m;refine ao (bO b (d+i*(sz+1))) w (by rw[g];subst m;simp[go_sem,hi,bK,z,Go.Vc.lI E,Result.andThen]) (bo (h _ w _ _ r) (o.go w y))⟩
end
def R3(x:Od)(w:Wt_)(b off:Nat)(h:At w b off (dF x)):(iL jG (bO b off)).run pQ w=.ok (kx x) w:=lE h
def MZ(D:List (Int×Value))(n:Int):(lk D n).elim gm yr=lx D n:=by unfold lx;cases lk D n<;>rfl
def P7:Tryz.prog.cellsOf jG=4+1:=cV
section
variable{P:Program}{L M:List As}{k:Value->WP}{s:Vt_}{t:TypeId}{cs:LV_}{n sz:Nat}{e:TypeId}
def Gs.len(d:Tryz.prog.underlying t=some (.slice e))(g:∀w,Ss w L->Rd w sz s n cs)(b:Gs L (k (gI (n:Int)))):Gs L (Nw pQ (builtin .len #[t] 3 #[false] #[s]) k):=⟨λw y=>by
 obtain⟨a,c,rfl⟩:=(g w y).isSl;exact uz (by simp[go_sem,d]) (b.go w y)⟩
def Gs.lenW(d:Tryz.prog.underlying t=some (.slice e))(g:∀w,Ss w L->Rd w sz s n cs)(b:Gs L (k (gI (n:Int)))):Gs L (Ww pQ (Builtin.len_ #[t] 3 #[s]) k):=⟨λw y=>by
 obtain⟨a,c,rfl⟩:=(g w y).isSl;exact cK (by simp[go_sem,d]) (b.go w y)⟩
end
def Fh(l:List Ct)(n:Int)(h:(dO l n).2=0):∃k,cj l n=some k/\(dO l n).1=k:=by
 unfold dO at h|-;cases b:cj l n with
 |none=>rw[b]at h;simp at h
 |some k=>exact⟨k,rfl,rfl⟩
section
variable{L M:List As}{K:Value->WP}{v c l mb md:Nat}{A:List (Int×Nat)}{D:List (Int×Value)}{S:bt}{n a:Int}{C:oR}{X:bJ}{bk:Int->Bk}{bd:Int->List Od}
def BQ(d:pI A D C.l bk)(g:(cj C.l n).isSome=true):∃b,lk A n=some b:=fh.1 (by rw[d.dom];exact g)
def qg(n:Int)(p:eG L (uI D bd::M):=by exact fR):∀w,Ss w L->Rd w 5 (lx D n) (bd n).length ((bd n).flatMap dF):=λw y=>(iK p y).elim λF q=>(q.q n trivial).rd
def IU{b:Nat}(g:lk A n=some b)(d:Gs L (K (.tuple #[.int .i64 (uT (bk n) a).1,gI (uT (bk n) a).2])))(p:eG L (sH A bk::M):=by exact fR):Gs L (Cw pQ 311 #[fi b,gU a] K):=
 Gs.rd1 (A:=sH A bk) (λw F _ q K h=>q.elim λj q=>NM (q.q n b trivial g) h) d p
attribute [go_sem] kx dF jX cY nh dy ZF
def QW{F:List As}(O:pI A D S.cal.l S.bk)(j:sy S)(N:(cj S.cal.l n).isSome=true)
  (y:Gs F (K (.tuple #[.int .i64 (S.opn n a).1,gI (S.opn n a).2])))(p:eG F (vs v c l mb md A D S L):=by exact iP):Gs F (Cw pQ 270 #[ec v,gU n,gU a] K):=by
 refine Gs.pk ?_ p;replace y:=Gs.pk y p.symm;refine sN Tryz.func270 ?_;unfold ec;refine au ?_;obtain⟨b,w⟩:=BQ O N;refine Gs.look (enc:=eY) (ev:=fi) (D:=A) (x:=n) (.pointer none) xM lu T9 ?_ fR;rw[w];refine IU w (au ?_);refine Gs.look (enc:=eY) (ev:=yr) (D:=D) (x:=n) gm rj lu Bi ?_ fR;rw[MZ];refine Gs.len ik (qg n) ?_;have r:∀o∈S.bd n,1<=o.left/\o.left<=1000000:=λo u=>Od.left_bd (j.bdMay n o u);have J:=j.bdl n;have Q:((S.bk n).all.length:Int)<=200:=by unfold Bk.all;rw[af];have:=(j.side n true).1;have:=(j.side n false).1;omega
 have G:∀o∈(S.bk n).all,1<=o.left/\o.left<=1000000:=λo u=>by
  obtain⟨d,I⟩:=rA.1 u;exact Od.left_bd ((j.bkMay n d o I).1)
 have V:=sZ (a:=a) (buy:=true) G;have U:=sZ (a:=a) (buy:=false) G;unfold bt.opn at y;unfold uT at y|-;refine Gs.l (λi:Nat=>(gI (tg (S.bk n).all a true+tg ((S.bd n).take i) a true),gI (tg (S.bk n).all a false+tg ((S.bd n).take i) a false),gI i,())) ((S.bd n).length - ·) (λ_=>vs v c l mb md A D S L) (·<=(S.bd n).length) 0 (by simp[tg]) qZ ?_ .refl;intro i Y R E
 dsimp only
 refine Gs.z (au ?_);refine Gs.I (λh=>?_) λh=>?_
 ·have m:i<(S.bd n).length:=qZ;refine Gs.it ik P7 dV R3 (qg n) rfl m (au ?_);intro q;refine au ?_;have B:=bR m;have z:=r _ (aq m);have x1:=sZ (l:=(S.bd n).take i) (a:=a) (buy:=true) λo u=>r o (bF u);have W:=sZ (l:=(S.bd n).take i) (a:=a) (buy:=false) λo u=>r o (bF u);have Z:(((S.bd n).take i).length:Int)<=50:=by rw[az];omega
  have g:=(E (i+1) qZ qZ).drop (A:=pt q (dF (S.bd n)[i]) jG);rw[B,qN,qN]at g;generalize(S.bd n)[i]=o at z g|-;refine Gs.Ib (λH=>?_) λH=>au (Gs.Ib (λw=>?_) λw=>?_)
  all_goals
   refine au ?_;simp at H;simpa [*,Int.add_assoc]using g
 ·grind
def IG{d:List As}(j:1<=S.next/\S.next<=jZ+1)(b:jZ<S.next->Gs (vs v c l mb md A D S L) (K (.tuple #[.int .u64 0,gI 6])))
  (g:S.next<=jZ->Gs (vs v c l mb md A D {S with next:=S.next+1} L) (K (.tuple #[.int .u64 S.next,gI 0])))(p:eG d (vs v c l mb md A D S L):=by exact iP):Gs d (Cw pQ 274 #[ec v] K):=by
 refine Gs.pk ?_ p;unfold jZ at*;refine sN Tryz.func274 ?_;unfold ec;refine au ?_;refine Gs.I (λh=>b h) λh=>au ?_;exact g qZ
def HD{z:List As}{a n:Int}{buy:Bool}{price qty:Int}{x:Od}(N:pI A D S.cal.l S.bk)(g:S.Ok)(m:ed price)(o:ed qty)(R:0<=x.left/\x.left<=1000000)
  (b:Gs z (K (gI (S.pass a n buy price qty x))))(p:eG z (vs v c l mb md A D S L):=by exact iP):Gs z (Cw pQ 216 #[ec v,gU a,gU n,.bool buy,gI price,gI qty,kx x] K):=by
 refine Gs.pk ?_ p;replace b:=Gs.pk b p.symm;unfold bt.pass at b;refine sN Tryz.func216 ?_;unfold ec;refine au ?_;intro p;refine au ?_;refine sj ?_;rw[oq];refine au ?_;intro q;refine au ?_;refine Gs.Ib (λh=>au ?_) λh=>au ?_
 ·have h:S.led.getO a=none:=by simpa using h
  rw[ae h]at b|-;exact b.fin
 have h:¬S.led.getO a=none:=by simpa using h
 rw[aa h]at b;refine Az (au ?_);refine Gs.bvar cV sI (bM _) cV (kH _) λr=>au ?_;have d:=Fh S.cal.l n;generalize Q:dO S.cal.l n=G at b d|-;refine Gs.Ib (λw=>?_) λw=>?_
 ·rw[ae (by simpa using w)]at b;exact b.fin
 obtain⟨k,E,y⟩:=d (by simpa using w);rw[aa (by simpa using w)]at b;have u:=(g.cal.ok k (si E)).1;rw[<-y]at u;refine QW N g.ord (by rw[E];rfl) ?_;have H:=WC g.ord n a;generalize S.opn n a=O at H b|-;refine au ?_;refine Gs.j1 (gI (O.1 - if x.buy then x.left else 0),gI (O.2 - if x.buy then 0 else x.left),()) (λJ I=>au ?_) ?_
 ·refine Gs.Ib (λB=>au ?_) λB=>au ?_ <;>simpa [B]using I
 refine Gs.z (au ?_);have F:=iH (P:=pQ) (L:=pt r (dA G.1) jW::pt q (cY (S.acc a)) 100::pt p (dF x) jG::vs v c l mb md A D S L) fR CP sI (bM G.1);refine Gs.WX F (au ?_);refine sK (au ?_);refine Gs.E F (au ?_);refine Gs.bBP (Vj ⟨G.1,S.acc a,(S.led.position n a).q,O.1 - (if x.buy then x.left else 0),O.2 - (if x.buy then 0 else x.left),buy,price,qty⟩) ?_;have j:=g.led.led.position n a;unfold MP at j;refine SQ ⟨u,⟨by show _<=(S.led.position n a).q;omega,by show(S.led.position n a).q<_;omega⟩,?_,?_,m,o⟩ b.fin
 ·grind
 ·grind
end
end Go.Proofs
namespace Go.Proofs
open Go Go.Vc
def V2(Ls:List (lG×Value)):As:=⟨λw F=>(∀x∈Ls,qT w x.2 x.1.ords)/\∀b,F b↔∃x∈Ls,aF x.2 b,λh hb=>by
  obtain⟨x,hx,hb⟩:=(h.2 _).1 hb;exact(h.1 x hx).lt hb,λh m hg=>⟨λx hx=>(h.1 x hx).mod m λb hb=>hg b ((h.2 b).2 ⟨x,hx,hb⟩),h.2⟩⟩
section
variable{L L0 M:List As}{φ:WP}{Ls:List (lG×Value)}{x:lG×Value}{k:Value->WP}{P:Program}
def TV(h:Gs (V2 []::L) φ):Gs L φ:=⟨λw y=>h.go w (y.new (aR.refl _ w) (F' :=λ_=>False) ⟨by simp,by simp⟩ λ_ h=>h.elim)⟩
def TR(h:Gs (V2 (Ls++[x])::M) φ)(p:eG L (mE x.2 x.1.ords::V2 Ls::M):=by exact iP):Gs L φ:=⟨λw ⟨F,y⟩=>by
 obtain⟨i,s,⟨h1,f⟩,⟨F3,j,⟨q,g⟩,m,o,B⟩,t,u⟩:=(p.out w F).1 y;refine h.go w (Ss.cons.2 ⟨λb=>i b\/F3 b,j,⟨λz e=>?_,λb=>?_⟩,m,λb d r=>?_⟩)
 ·rcases bf.1 e with e|e
  ·exact q z e
  ·grind
 ·show i b\/F3 b↔_;rw[f,g];simp only[bf,cm];constructor
  ·rintro(h|⟨z,e,h⟩)
   ·grind
   ·grind
  ·rintro⟨z,e|rfl,d⟩
   ·grind
   ·exact .inl d
 ·rcases d with d|d
  ·grind
  ·exact o b d r⟩
def To{t:lG}{s:Vt_}{os:List Od}(b:t.ords=os)(h:Gs (V2 (Ls++[(t,s)])::M) φ)(p:eG L (mE s os::V2 Ls::M):=by exact iP):Gs L φ:=by subst b;exact TR (x:=(t,s)) h p
def Gs.jv{S:Type}{a:(S->WP)->WP}{b:S->WP}(st:Nat->S)(cs:LV_)(T:TypeId)(d:∀J:S->WP,(∀r,Gs (pt r cs T::L) (J (st r)))->Gs L (a J))(f:∀r,Gs (pt r cs T::L) (b (st r))):Gs L (Jw a b):=
 Gs.j st (λr=>pt r cs T::L) (λ_=>True) (λJ e=>d J λr=>e r trivial) λr _=>f r
end
abbrev poX(p:Po):List Value:=[.int .u32 p.c,gU p.a,gI p.q,gI p.b]
abbrev ah4(T:TypeId):Value->(Value->WP)->WP:=λx k=>Xw pQ (uK T) λv=>Yw pQ (rS T v x) (k v)
abbrev al3(T:TypeId):Value->(Value->WP)->WP:=λx k=>Vw pQ (iA T true (.tuple #[])) λv=>Uw pQ (iS T v x) (k v)
def L1(xs:List Ct):Asg jW (λk=>.agg (dA k).toArray) dA xs (ah4 jW):=λk e W K b=>Qk λd h m=>b d h m
def S8{α:Type}{T:TypeId}{fv:α->Value}{fc:α->List Value}{xs:List α}(b:oH T fv fc xs):Asg T fv fc xs (al3 T):=λa d W K f=>by
 obtain⟨m,i,h,g,e,j⟩:=b a d W;exact bo h (iE g (f i e j))
def ad6{L M:List As}{b:Nat}{k:Ct}{T:TypeId}(p:eG L (pt b (dA k) T::M)):∀w,Ss w L->(qE 48 (bO b 0)).run pQ w=.ok (.agg (eV k.spec).toArray) w:=λw y=>by
 have d:At w b 0 (eV k.spec):=by
  have:=(At.all (td p y)).sub 0 25 (by rw[bM];omega);rw[dW,dA,aO (by rw[br];omega),aC (by rw[br];omega)]at this;exact this
 exact jh zi we (br _) d
def ad5(s:lG)(x y:Vt_)(l:List Od):(qp (s,x)).set 28 y=qp ({s with ords:=l},y):=by
 unfold qp;rw[cI _ _ (by rw[g9];omega),g9];rfl
attribute [go_sem] P3 Wu C7 Qt GO yv
section
variable{L L0 M:List As}{K:Value->WP}{v c l mb md:Nat}{A:List (Int×Nat)}{D:List (Int×Value)}{S:bt}{n a:Int}
def yW{k:Int}(b:Gs L (K (.bool true)))(p:eG L (OX v c l mb md k::M):=by exact fR):Gs L (Cw pQ 42 #[ec v] K):=by
 refine Gs.pk ?_ p;replace b:=Gs.pk b p.symm;refine sN Tryz.func42 ?_;unfold ec;refine au ?_;exact b
def Ku{o:Od}{e:Lg}{d j:Int}{l:List Od}{x:Option Addr}{y q b r:Nat}{k0 k1:WP}(E:l.length<=250)
  (t:lw a o=false->Gs (pt q (dF o) jG::pt b (qp (⟨e,d,j,l⟩,.slice x l.length y)) uN::mE (.slice x l.length y) l::pt r [.int .u32 a] 45::M) k0)
  (h1:lw a o=true->∀i g,Gs (pt q (dF o) jG::pt b (qp (⟨e,d,j,l++[o]⟩,.slice i (l++[o]).length g)) uN::mE (.slice i (l++[o]).length g) (l++[o])::pt r [.int .u32 a] 45::M) k1)
  (p:eG L (pt q (dF o) jG::pt b (qp (⟨e,d,j,l⟩,.slice x l.length y)) uN::mE (.slice x l.length y) l::pt r [.int .u32 a] 45::M):=by exact iP):
  Gs L (Iw (.bool (o.acct==a)) (Vw pQ (iF uN (bO b 0) 3) λC=>Vw pQ (iL sC C) λs=>Vw pQ (iL jG (bO q 0)) λz=>Xw pQ (rg sC 1 [(0,z)]) λB=>Xw pQ (fb #[sC,sC] sC [s,B]) λu=>
    Vw pQ (iF uN (bO b 0) 3) λm=>Uw pQ (iS sC m u) k1) k0):=by
 refine Gs.pk ?_ p;refine Gs.Ib (λh=>au ?_) λh=>?_
 ·refine Gs.push (x:=o) (f:=dF) (l:=l) ik MY dV (mz o) rfl qZ qZ (λi g=>?_) fR;refine au ?_;refine Gs.st fR (λw h=>by simp[go_sem,h,GO]) (ad5 ⟨e,d,j,l⟩ _ _ (l++[o])) ?_;exact(h1 (by simpa [lw]using h) i g).fin
 ·exact(t (by simpa [lw]using h)).fin
def QN{s:Vt_}{Ls:List (lG×Value)}(h:Ls.length<=100000)(d:∀x∈Ls,x.1.Fit/\x.1.ords.length<=1000000)(f:Gs L (K (.tuple #[ND (pR (Ls.map (·.1))).1,gI (pR (Ls.map (·.1))).2])))
  (p:eG L (ow s uN 29 Ls.length (Ls.flatMap qp)::V2 Ls::M):=by exact iP):Gs L (Cw pQ 301 #[s] K):=⟨λw ⟨F,z⟩=>by
 obtain⟨o,i,h1,⟨F3,j,g,-⟩,-⟩:=(p.out w F).1 z;exact P6 h1.1.rd h (λx b=>⟨(d x b).1,(d x b).2,(g.1 x b).rd⟩) λe m=>f.go e ((⟨F,z⟩:Ss w L).md0 m)⟩
def RT{a:Int}(hv:pI A D S.cal.l S.bk)(s:S.Ok)(Y:Gs L0 (K (.tuple #[ND (S.need a).1,gI (S.need a).2])))(p:eG L0 (vs v c l mb md A D S L):=by exact iP):Gs L0 (Cw pQ 257 #[ec v,gU a] K):=by
 refine Gs.pk ?_ p;replace Y:=Gs.pk Y p.symm;refine sN Tryz.func257 ?_;unfold ec;refine au ?_;intro p0;refine au ?_;intro p1;refine au ?_;intro p2;refine au ?_;refine yW (au ?_);refine Gs.j1 (gI (if S.led.getO a=none then 7 else 0),()) (λJ G=>au ?_) ?_
 ·refine Gs.An ?_ (au ?_)
  ·refine sj ?_;rw[oq];refine au ?_;intro r;refine au ?_;exact G.fin
  ·intro r;refine au ?_;refine sj ?_;rw[oq];refine au ?_;exact G.fin
 refine Gs.z ?_;refine Gs.j1 (.bool (decide (S.led.getO a=none\/a=0)),()) (λJ G=>au ?_) ?_
 ·refine Gs.Ib (λhg=>?_) λhg=>au ?_
  ·grind
  ·have hg:¬S.led.getO a=none:=by simpa using hg
   simpa [hg,show(a==0)=decide (a=0)from rfl]using G
 refine Gs.z (Gs.I (λu=>au ?_) λu=>au ?_)
 ·have e:S.need a=(Iz,7):=by unfold bt.need;rw[ae u];rfl
  rw[e]at Y;exact Y.fin
 have N:S.need a=pR (S.stakes a):=by unfold bt.need;rw[aa u]
 intro p;refine au ?_;refine Gs.nil uN 29 (TV (AC λgv=>?_));refine Gg.rf (λ_ _ _ _=>rfl) (L1 _) (I:=λi (b:Option Addr×Nat×List (lG×Value)) M=>pt p [.slice b.1 b.2.2.length b.2.1] 410::ow (.slice b.1 b.2.2.length b.2.1) uN 29 b.2.2.length (b.2.2.flatMap qp)::V2 b.2.2::pt p1 [.int .u32 a] 45::pt p0 [.pointer (some ⟨v,0,none⟩)] 24::vs v c l mb md A D S M) (E:=λ(_:Unit) M=>M) (λ_ _ _=>rfl) (λ_ _=>rfl) (λi b=>b.2.2.map (·.1)=ul S a i) (λ_ _=>False) (none,0,[]) rfl ?_ ?_ (λ_ _ _ h=>h.elim) (by simp only[List.length_nil,cC,cU,eN,aN,gm,mE];(repeat first|(with_reducible exact eG.refl)|((apply Zo);(·repeat first|(with_reducible exact Ou)|(with_reducible apply OV)))))
 ·rintro i hi ⟨sa,sc,Ls⟩ C l1 r1 q M kn kj R -
  dsimp only at C|-
  have m:=Ff (S:=S) (a:=a) hi
  have hLs:Ls.length<=16:=by
   have h:=ep List.length C;have h1:=bh (λk=>decide (k.st≠3)) (S.cal.l.take i);have h2:=s.cal.len;unfold ul at h;rw[ah,ah]at h;rw[az]at h1;omega
  have V:S.cal.l[i]∈S.cal.l:=aq hi;generalize S.cal.l[i]=k at m V|-;refine au ?_;refine Gs.Ib (λh=>?_) λh=>au ?_
  ·rw[ae (by simpa using h),aN]at m;exact(R (sa,sc,Ls) _ (by rw[m];exact C)).fin
  have h3:¬k.st=3:=by simpa using h
  rw[aa h3]at m;refine Gs.jv (λr=>(.pointer (some ⟨r,0,none⟩),())) (poX (S.led.position k.spec.num a)) 124 (λJ G=>au ?_) λr=>?_
  ·refine Gs.An ?_ (au ?_)
   ·refine sK (au ?_);intro r;refine au ?_;exact(G r).fin
   ·intro r;refine au ?_;refine sK (au ?_);exact(G r).fin
  dsimp only
  refine Gs.z ?_;refine au ?_;refine Gs.X (λw y=>ad6 (k:=k) (b:=q) (T:=jW) fR w y) ?_;refine au ?_;refine Gs.bB (UT _ _) (au ?_);refine Gs.bB (Ur _ _ _) ?_;refine Gs.bvar zSk YE (pz _) cV (EL _ Xl) λq2=>au ?_;obtain⟨b,W⟩:=BQ hv (n:=k.spec.num) (by rw[Dk s.cal V];rfl);refine Gs.look (enc:=eY) (ev:=fi) (D:=A) (x:=k.spec.num) (.pointer none) xM lu T9 ?_ fR;rw[W];refine Gs.nil jG 5 (Vt (n:=k.spec.num) W λgv2=>?_);have F:(S.bk k.spec.num).all.length<=200:=by unfold Bk.all;rw[af];have:=(s.ord.side k.spec.num true).1;have:=(s.ord.side k.spec.num false).1;omega
  generalize hAl:(S.bk k.spec.num).all=t at F|-;refine Gg.rn (λ_ _ _ _=>rfl) (S8 oH.od) (I:=λj (b:Option Addr×Nat) M=>pt q2 (qp (⟨⟨k.spec,(S.led.position k.spec.num a).q⟩,(S.led.position k.spec.num a).b,k.price,(t.take j).filter (lw a)⟩,.slice b.1 ((t.take j).filter (lw a)).length b.2)) uN::mE (.slice b.1 ((t.take j).filter (lw a)).length b.2) ((t.take j).filter (lw a))::pt p1 [.int .u32 a] 45::M) (E:=λ(_:Unit) M=>M) (λ_ _ _=>rfl) (λ_ _=>rfl) (λ_ _=>True) (λ_ _=>False) (none,0) trivial ?_ ?_ (λ_ _ h=>h.elim) (by simp only[List.length_nil,cC,cU,eN,aN,gm,mE];(repeat first|(with_reducible exact eG.refl)|((apply Zo);(·repeat first|(with_reducible exact Ou)|(with_reducible apply OV)))))
  ·rintro j hj ⟨x,y⟩ - l2 q3 M2 kn2 kj2 g -;have B:=bR hj
   dsimp only at g|-
   rw[B,cy]at g;generalize t[j]=o at g|-;have O:((t.take j).filter (lw a)).length<=250:=ck (bh _ _) (by rw[az];omega);refine au ?_;refine Ku O (λh=>?_) λh Z X=>?_
   ·rw[aV (by simp[h]),eN,aN]at g;exact(g (x,y) trivial).fin
   ·rw[bL h,eN]at g;exact(g (Z,X) trivial).fin
  rintro⟨x,y⟩ -;rw[aK];refine Gs.ak (au ?_);refine Gs.look (enc:=eY) (ev:=yr) (D:=D) (x:=k.spec.num) gm rj lu Bi ?_ fR;rw[MZ];refine Gs.len ik (qg k.spec.num) ?_;have hBdl:=s.ord.bdl k.spec.num;have hF:(t.filter (lw a)).length<=200:=ck (bh _ _) F;refine Gs.l (λb:Nat×Option Addr×Nat=>(gI b.1,())) (λb=>(S.bd k.spec.num).length - b.1) (λb=>pt q2 (qp (⟨⟨k.spec,(S.led.position k.spec.num a).q⟩,(S.led.position k.spec.num a).b,k.price,t.filter (lw a)++((S.bd k.spec.num).take b.1).filter (lw a)⟩,.slice b.2.1 (t.filter (lw a)++((S.bd k.spec.num).take b.1).filter (lw a)).length b.2.2)) uN::mE (.slice b.2.1 (t.filter (lw a)++((S.bd k.spec.num).take b.1).filter (lw a)).length b.2.2) (t.filter (lw a)++((S.bd k.spec.num).take b.1).filter (lw a))::pt p1 [.int .u32 a] 45::pt q (dA k) jW::pt p [.slice sa Ls.length sc] 410::ow (.slice sa Ls.length sc) uN 29 Ls.length (Ls.flatMap qp)::V2 Ls::pt p0 [.pointer (some ⟨v,0,none⟩)] 24::vs v c l mb md A D S (x7 l1 r1::pt r (poX (S.led.position k.spec.num a)) 124::M)) (λb=>b.1<=(S.bd k.spec.num).length) (0,x,y) rfl (by simp) ?_ (by simp only[List.length_nil,cC,cU,eN,aN,gm,mE];(repeat first|(with_reducible exact eG.refl)|((apply Zo);(·repeat first|(with_reducible exact Ou)|(with_reducible apply OV)))));rintro⟨j,x,y⟩ hj KN H
  dsimp only at hj H|-
  refine Gs.z (au ?_);refine Gs.I (λh=>?_) λh=>?_
  ·have U:j<(S.bd k.spec.num).length:=qZ;have B:=bR U;refine Gs.it ik P7 dV R3 (qg k.spec.num) rfl U (au ?_);intro q5;generalize(S.bd k.spec.num)[j]=o at B|-;refine au ?_
   have O:(t.filter (lw a)++((S.bd k.spec.num).take j).filter (lw a)).length<=250:=by
    rw[af];have:=bh (lw a) ((S.bd k.spec.num).take j);rw[az]at this;omega
   refine Ku O (λh=>?_) λh Z X=>?_
   ·refine au ?_;have:=H (j+1,x,y) (by dsimp only;omega) (by dsimp only;omega)
    dsimp only at this
    rw[B,cy,<-ar]at this;rw[aV (by simp[h]),eN,aN]at this;exact this.fin
   ·refine au ?_;have:=H (j+1,Z,X) (by dsimp only;omega) (by dsimp only;omega)
    dsimp only at this
    rw[B,cy,<-ar]at this;rw[bL h,eN]at this;exact this.fin
  ·obtain rfl:j=(S.bd k.spec.num).length:=qZ;rw[aK];refine au ?_;refine Gs.X (λw z=>iH fR aSk YE (pz _) w z) ?_;refine Gs.push (l:=Ls) (x:=(S.stake a k,.slice x (t.filter (lw a)++(S.bd k.spec.num).filter (lw a)).length y)) (f:=qp) aa7 eSk pz (EL _ ⟨_,_,_,rfl⟩) rfl qZ qZ (λZ X=>?_) fR;refine au ?_;have Q:(S.stake a k).ords=t.filter (lw a)++(S.bd k.spec.num).filter (lw a):=by rw[<-hAl];rfl
   refine To Q (Ls:=Ls) ?_;have:=R (Z,X,Ls++[(S.stake a k,.slice x (t.filter (lw a)++(S.bd k.spec.num).filter (lw a)).length y)]) (dA k) (by rw[m,aM,C];rfl);exact this.fin
 ·rintro⟨sa,sc,Ls⟩ d C
  dsimp only at C|-
  have e:ul S a S.cal.l.length=S.stakes a:=by unfold ul bt.stakes;rw[aK]
  rw[e]at C;refine Gs.ak (au ?_)
  have hLl:Ls.length<=16:=by
   have:=ep List.length C;rw[ah]at this;rw[this];unfold bt.stakes;rw[ah];exact ck (bh _ _) s.cal.len
  refine QN (Ls:=Ls) qZ (λx hx=>?_) ?_
  ·have hm:x.1∈S.stakes a:=by rw[<-C];exact aX hx
   unfold bt.stakes at hm;obtain⟨k,hk,he⟩:=aL.1 hm;have:=Mm s (a:=a) (aU.1 hk).1;rw[he]at this;exact⟨this.1,qZ⟩
  rw[C,<-N];refine au ?_;refine Gs.tw ?_;refine au ?_;exact Y.fin
end
end Go.Proofs
namespace Go.Proofs
open Go Go.Vc
attribute [go_sem] ZQ cm2 YK Z1 O6 Tu Vo UM Uv
section
variable{L L0 M:List As}{K:Value->WP}{v c l mb md:Nat}{A:List (Int×Nat)}{D:List (Int×Value)}{S:bt}{n a:Int}
def MT{n:Nd}(h1:ed n.m)(e:ed n.w)(g:ed n.u)(f:ed n.total)(b:Gs L (K (gI n.total))):Gs L (Cw pQ 258 #[ND n] K):=⟨λw y=>MR h1 e g f λd m=>b.go d (y.md0 m)⟩
def zn(i:pI A D S.cal.l S.bk)(d:S.Ok)(b:Gs L0 (K (gI (S.bears a))))(p:eG L0 (vs v c l mb md A D S L):=by exact iP):Gs L0 (Cw pQ 200 #[ec v,gU a] K):=by
 refine Gs.pk ?_ p;replace b:=Gs.pk b p.symm;refine sN Tryz.func200 ?_;unfold ec;refine RT i d ?_;have f:=K3 S a;have g:=SZ S a;unfold bt.bears at b;generalize S.need a=N at f g b|-;refine au ?_;intro q;refine au ?_;refine Gs.Ib (λe=>?_) λe=>?_
 ·rw[ae (by simpa using e)]at b;exact b.fin
 rw[aa (by simpa using e)]at b;refine au ?_;refine sj ?_;rw[oq];refine au ?_;intro r;refine au ?_;refine MT ⟨qZ,qZ⟩ ⟨qZ,qZ⟩ ⟨qZ,qZ⟩ ⟨qZ,qZ⟩ ?_;refine au ?_;refine Gs.I (λh=>?_) λh=>?_
 ·rw[ae h]at b;exact b.fin
 ·rw[aa h]at b;exact b.fin
def DS{x:Cm}(i:pI A D S.cal.l S.bk)(d:S.Ok)(g:x.Fit)(b:Gs (vs v c l mb md A D (S.order x).2.2 L) (K (.tuple #[kx (S.order x).2.1,gI (S.order x).1])))(p:eG L0 (vs v c l mb md A D S L):=by exact iP):Gs L0 (Cw pQ 219 #[ec v,zF x] K):=by
 refine Gs.pk ?_ p;unfold bt.order at b;refine sN Tryz.func219 ?_;unfold ec;obtain⟨m,s,u,t,o,r,k,f,j⟩:=g;refine au ?_;intro p;refine au ?_;intro q;refine au ?_;refine HD i d f j (x:=oQ) ⟨by show(0:Int)<=0;omega,by show(0:Int)<=1000000;omega⟩ ?_;generalize S.pass x.acct x.ct x.buy x.price x.qty oQ=E at b|-;refine au ?_;refine Gs.Ib (λe=>?_) λe=>?_
 ·rw[ae (by simpa using e)]at b;refine au ?_;exact b.fin
 rw[aa (by simpa using e)]at b;refine IG d.next (λh=>?_) λh=>?_
 ·rw[ae h]at b;refine au ?_;exact b.fin
 ·rw[aa qZ]at b;refine au ?_;exact b.fin
end
end Go.Proofs
namespace Go.Proofs
open Go Go.Vc
abbrev Bm(s:Vt_)(l:List Td):As:=ow s Z5 4 l.length (l.flatMap FJ)
abbrev tL(s:Vt_)(l:List Int):As:=ow s 37 1 l.length (l.flatMap vZ)
abbrev Ab(s:Vt_)(l:List Int):As:=ow s 45 1 l.length (l.flatMap Cu)
abbrev ez(x:Option Addr×Nat)(n:Nat):Value:=.slice x.1 n x.2
section
variable{L L0 M:List As}{φ:WP}{K:Value->WP}{v c l mb md b:Nat}{A:List (Int×Nat)}{D:List (Int×Value)}{S:bt}{n a:Int}{bk:Int->Bk}{bd:Int->List Od}{B:Bk}{s:Vt_}{os:List Od}
def ui(j:lk A n=some b)(C:Gs (Cy b (bk n)::Xt (·≠n) A bk::M) φ)(p:eG L (sH A bk::M):=by exact iP):Gs L φ:=⟨λw ⟨F,z⟩=>by
 obtain⟨G,o,⟨f,q⟩,y,r,-⟩:=(p.out w F).1 z;have i:∀{m x},(lk A m).isSome=true->f m x->G x:=λh d=>(q.f _).2 ⟨_,trivial,h,d⟩
 exact C.go w (Ss.cons.2 ⟨f n,λx=>(∃m,m≠n/\(lk A m).isSome=true/\f m x)\/o x,q.q n b trivial j,⟨_,o,⟨f,λm b u e=>q.q m b trivial e,λm k x _ _=>q.dj m k x trivial trivial,λ_=>aG⟩,y,λx ⟨m,_,t,d⟩=>r x (i t d),λ_=>aG⟩,λx d g=>by
  rcases g with⟨m,u,t,E⟩|g
  ·exact u (q.dj m n x trivial trivial E d)
  ·exact r x (i (by rw[j];rfl) d) g⟩)⟩
def wH(u:lk A n=some b)(E:Gs (sH A (eS bk n B)::M) φ)(p:eG L (Cy b B::Xt (·≠n) A bk::M):=by exact iP):Gs L φ:=⟨λw ⟨F,z⟩=>by
 obtain⟨i,N,h1,⟨y,F3,⟨r,q⟩,I,G,H⟩,J,O⟩:=(p.out w F).1 z;have no:∀{m x},m≠n->(lk A m).isSome=true->r m x->¬i x:=λd j f o=>J _ o ((H _).2 (.inl ((q.f _).2 ⟨_,d,j,f⟩)));refine E.go w (Ss.cons.2 ⟨λx=>i x\/y x,F3,⟨λm x=>if m=n then i x else(lk A m).isSome=true/\r m x,λm t _ e=>?_,λm k x _ _=>?_,λx=>?_⟩,I,λx f o=>?_⟩)
 ·by_cases d:m=n
  ·subst d;rw[u]at e;cases e;simp only[cQ,df];exact h1
  ·rw[eR _ _ _ d];simpa [d,e]using q.q m t d e
 ·by_cases d:m=n<;>by_cases g:k=n<;>simp only[d,g,df,dg]
  ·simp
  ·grind
  ·grind
  ·exact λh C=>q.dj m k x d g h.2 C.2
 ·rw[q.f];constructor
  ·rintro(h|⟨m,d,j,f⟩)
   ·grind
   ·grind
  ·rintro⟨m,-,j,f⟩;by_cases d:m=n
   ·grind
   ·grind
 ·rcases f with f|f
  ·grind
  ·exact G x f o⟩
def xU(j:Gs (mE (lx D n) (bd n)::TE (·≠n) D bd::M) φ)(p:eG L (uI D bd::M):=by exact iP):Gs L φ:=⟨λw ⟨F,z⟩=>by
 obtain⟨r,f,q,h,g,-⟩:=(p.out w F).1 z;have i:∀{m x},aF (lx D m) x->r x:=λd=>(q.f _).2 ⟨_,trivial,d⟩
 exact j.go w (Ss.cons.2 ⟨aF (lx D n),λx=>(∃m,m≠n/\aF (lx D m) x)\/f x,⟨q.q n trivial,λ_=>aG⟩,⟨_,f,⟨λm _=>q.q m trivial,λm k x _ _=>q.dj m k x trivial trivial,λ_=>aG⟩,h,λx ⟨m,_,d⟩=>g x (i d),λ_=>aG⟩,λx d e=>by
  rcases e with⟨m,t,o⟩|e
  ·exact t (q.dj m n x trivial trivial o d)
  ·exact g x (i d) e⟩)⟩
def B8(o:Gs (uI (put D n s) (eS bd n os)::M) φ)(p:eG L (mE s os::TE (·≠n) D bd::M):=by exact iP):Gs L φ:=⟨λw ⟨F,z⟩=>by
 obtain⟨u,E,⟨h1,i⟩,⟨j,F3,q,y,r,t⟩,C,G⟩:=(p.out w F).1 z;have no:∀{m x},m≠n->aF (lx D m) x->¬aF s x:=λd e g=>C _ ((i _).2 g) ((t _).2 (.inl ((q.f _).2 ⟨_,d,e⟩)));refine o.go w (Ss.cons.2 ⟨λx=>u x\/j x,F3,⟨λm _=>?_,λm k x _ _=>?_,λx=>?_⟩,y,λx e g=>?_⟩)
 ·rw[qJ];by_cases d:m=n
  ·subst d;simpa [cQ]using h1
  ·rw[eR _ _ _ d,aa d];exact q.q m d
 ·rw[qJ,qJ];by_cases d:m=n<;>by_cases f:k=n<;>simp only[d,f,df,dg]
  ·simp
  ·grind
  ·grind
  ·exact q.dj m k x d f
 ·rw[q.f,i];constructor
  ·rintro(h|⟨m,d,e⟩)
   ·exact⟨n,trivial,by rw[qJ,ae rfl];exact h⟩
   ·exact⟨m,trivial,by rw[qJ,aa d];exact e⟩
  ·rintro⟨m,-,e⟩;rw[qJ]at e;by_cases d:m=n
   ·grind
   ·grind
 ·rcases e with e|e
  ·grind
  ·exact r x e g⟩
def pI.put{C:List Ct}(h:pI A D C bk)(f:(cj C n).isSome=true):pI A (put D n s) C bk:=⟨h.dom,λm d=>by
 rw[lm]at d;by_cases e:n=m
 ·rw[<-e];exact f
 ·rw[aa e]at d;exact h.dod m d,h.nbk⟩
def pI.upb{C:List Ct}(h:pI A D C bk)(f:lk A n=some b):pI A D C (eS bk n B):=⟨h.dom,h.dod,λm d=>by
 by_cases e:m=n
 ·grind
 ·rw[eR _ _ _ e];exact h.nbk m d⟩
def B3{o:Od}{k:Int}(e:o.Fit)(t:0<=k/\k<256)(h:∀x y,Gs (Cy b (db B o k).2.1::Bm (ez x (db B o k).2.2.trades.length) (db B o k).2.2.trades::tL (ez y (db B o k).2.2.gone.length) (db B o k).2.2.gone::M)
   (K (.tuple #[.agg (sw (ez x (db B o k).2.2.trades.length) (ez y (db B o k).2.2.gone.length) (db B o k).2.2.filled (db B o k).2.2.left),gI (db B o k).1])))(p:eG L (Cy b B::M):=by exact fR):
  Gs L (Cw pQ 155 #[fi b,kx o,gB k] K):=by
 generalize m:db B o k=X at h
 exact Gs.old (A:=Cy b B) (val:=λx:(Option Addr×Nat)×Option Addr×Nat=>.tuple #[.agg (sw (ez x.1 X.2.2.trades.length) (ez x.2 X.2.2.gone.length) X.2.2.filled X.2.2.left),gI X.1]) (p:=λ_=>True) (B:=λx=>(Cy b X.2.1).mul ((Bm (ez x.1 X.2.2.trades.length) X.2.2.trades).mul (tL (ez x.2 X.2.2.gone.length) X.2.2.gone))) (λw F _ q K h=>zb q e t λf sT H j g o C i nn=>by
  rw[m]at g o|-;obtain⟨E,r,rfl,-⟩:=o.tr.isSl;obtain⟨z,u,rfl,-⟩:=o.go.isSl;exact h ((E,r),z,u) j (λy=>f y\/aF _ y\/aF _ y) trivial ⟨f,_,g,⟨aF _,aF _,⟨o.tr,λ_=>aG⟩,⟨o.go,λ_=>aG⟩,o.dj,λ_=>aG⟩,λy d G=>(nn y G).2 d,λ_=>aG⟩ C λy d=>d.elim (i y) λh=>.inr (nn y h).1) (λx _=>((h x.1 x.2).pk (eG.cons O3)).pk O3) p
end
end Go.Proofs
