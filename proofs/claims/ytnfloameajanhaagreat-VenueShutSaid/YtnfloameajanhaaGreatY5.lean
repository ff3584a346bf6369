/- Part of a proof. -/
import Derived.Shelf.SlSortCmp.NoneTotal
import Derived.Ground.SlsfProg
import Derived.Test.YtnfloameajanhaaGreatY4
set_option linter.all false
namespace Go.Proofs
open Go Go.Vc
attribute [local congr] cR
variable {buy:Bool}{n:Int}{l:List Od}{F:NP_}{s p:Nat}{o:Od}{w W:Wt_}{K:cG}
def Od.may(o:Od):Bool:=decide (o.num≠0)&& decide (o.acct≠0)&& amongB o.price 1 MP&& amongB o.left 1 1000000
def oG(o:Od):Value:=.agg (fL o).toArray
def pC:Od:=⟨0,0,false,0,0⟩
def sx(buy:Bool)(a b:Int):Bool:=if buy then decide (b<a)else decide (a<b)
def J9(buy:Bool)(l:List Od)(price:Int):Nat:=(l.findIdx? λx=>sx buy price x.price).getD l.length
def tK(buy:Bool)(l:List Od)(o:Od):List Od:=l.take (J9 buy l o.price)++o::l.drop (J9 buy l o.price)
def rX(buy:Bool)(l:List Od)(o:Od):Int×List Od:=
 if¬o.may\/o.buy≠buy then(2,l)else if(l.any λx=>decide (x.num=o.num))then(8,l)else if 100<=l.length then(9,l)else(0,tK buy l o)
def pI(l:List Od)(n:Int):Option Od:=l.find? λx=>decide (x.num=n)
def tD(l:List Od)(n:Int):List Od:=l.eraseP λx=>decide (x.num=n)
def wZ(l:List Od)(n left:Int):Int×List Od:=
 match l.findIdx? λx=>decide (x.num=n)with
 |none=>(7,l)
 |some i=>match l[i]? with
  |none=>(7,l)
  |some o=>if left<1\/o.left<left then(2,l)else(0,l.set i {o with left:=left})
def og(l:List Od)(n:Int):List Od:=
 match l with
 | []=>[]
 |o::r=>if o.left - n=0 then r else{o with left:=o.left - n}::r
def lR(buy:Bool)(l:List Od)(price:Int)(acct:Int):Int:=
 (((l.takeWhile λo=> !sx buy price o.price).filter λo=>decide (o.acct≠acct)).map (·.left)).sum
def vt(o:Od)(w:Wt_):∃a,(Instr.box pz (oG o)).run pQ w=.ok (pt w.heap.size 0) a/\hC a w.heap.size (fL o).toArray pz/\M0 w a:=
 ⟨w.alloc (.cells (fL o).toArray pz),rfl,by simp[go_sem],(de.refl _ w).alloc _⟩
def Ab(b:∀h,M0 w h->K (.bool o.may) h):Ca pQ 110 #[oG o] w K:=by
 apply as6;obtain⟨k,i,a,j⟩:=vt o w;have b:=b _ j;apply cI i;unfold Od.may amongB MP at b;unfold fL at a;refine qS1 a ?_;refine qS1 a ?_;by_cases d:o.num=0
 ·refine qSf1 d ?_;simpa [d]using b
 refine qSt1 d ?_;refine qS1 a ?_;refine qS1 a ?_;by_cases c:o.acct=0
 ·refine qSf1 c ?_;simpa [c]using b
 refine qSt1 c ?_;refine qS1 a ?_;refine qS1 a ?_;by_cases e:1<=o.price
 ·refine qSt1 e ?_;refine qS1 a ?_;refine qS1 a ?_;by_cases f:o.price<=10000000
  ·refine qSt1 f ?_;refine qS1 a ?_;refine qS1 a ?_;by_cases g:1<=o.left
   ·refine qSt1 g ?_;refine qS1 a ?_;refine qS1 a ?_;refine qS0 ?_;simpa [d,c,e,f,g]using b
   ·refine qSf1 g ?_;simpa [d,c,e,f,g]using b
  ·refine qSf1 f ?_;simpa [d,c,e,f]using b
 ·refine qSf1 e ?_;simpa [d,c,e]using b
structure lp(w:Wt_)(s:Nat)(F:NP_)(buy:Bool)(l:List Od):Prop where
 out:∃sl,hC w s #[.bool true,.bool buy,sl] 188/\qR w sl l/\(∀b,F b↔b=s\/cK sl b)/\¬cK sl s
 len:l.length<=100
 may:∀o∈l,o.may=true/\o.buy=buy/\o.Fit
def lp.mod{G:NP_}{w' :Wt_}(h:lp w s F buy l)(d:de G w w')(c:∀b,F b->¬G b):lp w' s F buy l:=by
 obtain⟨⟨sl,i,e,a,g⟩,j,k⟩:=h;exact⟨⟨sl,d.hpk i (c s ((a s).2 (.inl rfl))),e.mod d λb f=>c b ((a b).2 (.inr f)),a,g⟩,j,k⟩
def lp.lt(h:lp w s F buy l){b:Nat}(a:F b):b<w.heap.size:=by
 obtain⟨⟨sl,d,c,e,g⟩,i,f⟩:=h;rcases(e b).1 a with rfl|a
 ·exact cB d
 ·exact c.lt a
def lp.self(h:lp w s F buy l):F s:=by
 obtain⟨⟨sl,e,c,a,d⟩,f,b⟩:=h;exact(a s).2 (.inl rfl)
def fQ(s:Nat):Value:=pt s 0
def G6(c:∀s F a,lp a s F buy []->M0 w a->(∀b,F b->w.heap.size<=b)->K (fQ s) a):Ca pQ 127 #[.bool buy] w K:=by
 apply am6;simp[go_sem];refine c _ (λb=>b=w.heap.size) _ ⟨⟨.slice none 0 0,by simp[go_sem],jo.nil _ _ _,λb=>⟨λh=>.inl h,λh=>by rcases h with h|h;exact h;cases h⟩,λh=>by cases h⟩,by simp,λo h=>by cases h⟩ lm λb d=>by grind
def sR(h:lp w s F buy l)(b:K (.bool true) w):Ca pQ 107 #[fQ s] w K:=by
 obtain⟨⟨sl,a,d,g,e⟩,f,c⟩:=h;apply an8;unfold fQ;refine qSt0 ?_;simp only[dr];refine qS1 a ?_;refine qS1 a ?_;exact b
def DE{x y:Int}(h:lp w s F buy l)(a:K (.bool (sx buy x y)) w):Ca pQ 215 #[fQ s,gI x,gI y] w K:=by
 obtain⟨⟨sl,b,c,f,d⟩,e,g⟩:=h;apply ah9;unfold fQ;simp only[dr];refine qS1 b ?_;refine qS1 b ?_;unfold sx at a;cases buy with
 |true=>
  rw[kx];refine qS0 ?_;simpa using a
 |false=>
  rw[gP];refine qS0 ?_;simpa using a
def Rw(h:lp w s F buy l)
  (q:∀g,M0 w g->K (gI (uK l λx=>decide (x.num=n))) g):Ca pQ 245 #[fQ s,gQ n] w K:=by
 obtain⟨⟨sl,o,m,A,y⟩,z,C⟩:=h;apply ao9;unfold fQ;have c:M0 w (w.alloc (.cells #[.int .u64 n] 24)):=lm;obtain⟨p,b⟩:=dW w.heap.size;apply cx (pt p 0) (w.alloc (.cells #[.int .u64 n] 24)) (by rw[b];simp[go_sem]);have f:hC (w.alloc (.cells #[.int .u64 n] 24)) p #[.int .u64 n] 24:=by rw[b];simp[go_sem]
 generalize w.alloc (.cells #[.int .u64 n] 24)=v at c f|-;have a:=c.hpk o id;simp only[dr];refine qS1 a ?_;refine qS1 a ?_;refine wE (m.mod c eQ).rd qZ ⟨_,_,rfl,λx B W j E e=>?_⟩ λD k=>q _ (c.trans k);apply ad3;obtain⟨r,u,d,i⟩:=vt x W;apply cI u;unfold fL at d;have t:=i.hpk (j.hpk f id) id;refine qS1 d ?_;refine qS1 d ?_;refine qS1 t ?_;apply cx (.bool (decide (x.num=n))) r (by simp[go_sem];rw[iC];simp);exact e _ i
def xq{α:Type}{l:List α}{p:α->Bool}{i:Nat}(h:l.findIdx? p=some i):∃a:i<l.length,p l[i]=true/\l.find? p=some l[i]/\uK l p=(i:Int):=by
 obtain⟨a,b,d⟩:=eB.1 h;refine⟨a,b,?_,by unfold uK;rw[h]⟩;rw[fV];exact⟨b,i,a,rfl,λj c=>by simpa using d j c⟩
def zm{α:Type}{l:List α}{p:α->Bool}(h:l.findIdx? p=none):l.find? p=none/\uK l p= -1:=by
 refine⟨?_,by unfold uK;rw[h]⟩;rw[fR]at h;rw[fW];exact λx a=>by rw[h x a];simp
def P8(h:lp w s F buy l)
  (a:∀c,M0 w c->K (.tuple #[.int .i64 ((l.findIdx? λx=>decide (x.num=n)).getD 0:Nat),gI (if(l.findIdx? λx=>decide (x.num=n)).isSome then 0 else 7)]) c):Ca pQ 205 #[fQ s,gQ n] w K:=by
 apply ah3;apply sR h;refine qSf0 ?_;refine Rw h λf d=>?_;have a:=a _ d;cases b:l.findIdx? λx=>decide (x.num=n)with
 |none=>
  rw[b]at a;rw[(zm b).2];refine qSf0 ?_;simpa using a
 |some i=>
  rw[b]at a;obtain⟨_,_,_,e⟩:=xq b;rw[e];refine qSt0 ?_;simpa using a
def ZU{off:Nat}{C:Array Value}{T:TypeId}(h:hC W p C T)(a:off+5<=C.size):
  (iS pz (pt p off) (oG o)).run pQ W=.ok () (W.setRow p (mh C.toList off (fL o)).toArray):=by
 have c:=xw (P:=pQ) (t:=pz) (w:=W) (b:=p) (off:=off) (cs:=fL o) (n:=4) B9 rfl h a (pD o);exact c
def lM{off:Nat}(h:At W p off (fL o)):(iL pz (pt p off)).run pQ W=.ok (oG o) W:=
 gm (P:=pQ) (t:=pz) cU B9 rfl h
def kD(w:Wt_):∃a,(iA pz true (.tuple #[])).run pQ w=.ok (pt w.heap.size 0) a/\hC a w.heap.size (fL pC).toArray pz/\M0 w a:=
 ⟨w.alloc (.cells (fL pC).toArray pz),by simp[go_sem,fL,pC],by simp[go_sem],(de.refl _ w).alloc _⟩
def jK{o' :Od}{T:TypeId}(h:hC W p (fL o).toArray T):
  ∃a,(iS pz (pt p 0) (oG o')).run pQ W=.ok () a/\hC a p (fL o').toArray T/\de (λb=>b=p) W a:=by
 refine⟨_,ZU h (cJ _),?_,(de.refl (λb=>b=p) W).setRow (.inl rfl) _⟩;show(W.setRow p _).heap[p]? =_;have c:W.heap[p]? =some (.cells (fL o).toArray T (0,0)):=h;rw[ij,bZ rfl,c,tp (by rfl)]
def qR.load{sl:Vt_}(h:qR w sl l){i:Nat}(hi:i<l.length):
  ∃b a,sl=.slice (some ⟨b,0,none⟩) l.length a/\(∀k:IntKind,(iX Av sl (.int k (i:Int))).run pQ w=.ok (pt b (i*5)) w)/\(iL pz (pt b (i*5))).run pQ w=.ok (oG l[i]) w:=by
 obtain⟨b,a,rest,rfl,j,f,g⟩:=h.pos qZ;have c:At w b 0 (l.flatMap fL++rest):=At.all (fy f);have d:=h.1;have e:=c.sub (i*5) 5 (by rw[cD,d];omega);rw[eZ (by rw[d];omega),dh (by rw[dV,d];omega),oB fL 5 l i (λx _=>gM x) hi,eU]at e;refine⟨b,a,rfl,λk=>?_,lM e⟩;simp[go_sem,hi,cS,mH]
def Aw(h:lp w s F buy l)
  (g:pI l n=none->l.findIdx? (λx=>decide (x.num=n))=none->∀a,M0 w a->K (.tuple #[.int .i64 0,gI 7]) a)
  (f:∀i:Nat,∀b:i<l.length,pI l n=some l[i]->l.findIdx? (λx=>decide (x.num=n))=some i->∀a,M0 w a->K (.tuple #[.int .i64 (i:Int),gI 0]) a):Ca pQ 205 #[fQ s,gQ n] w K:=by
 refine P8 h λj c=>?_;cases b:l.findIdx? λx=>decide (x.num=n)with
 |none=>exact g (zm b).1 b _ c
 |some i=>
  obtain⟨d,k,e,m⟩:=xq b;exact f i d e b _ c
def SV(h:lp w s F buy l)
  (c:∀u,M0 w u->K (.tuple #[oG ((pI l n).getD pC),gI (if(pI l n).isSome then 0 else 7)]) u):Ca pQ 204 #[fQ s,gQ n] w K:=by
 apply ai0;obtain⟨I,H,e,m⟩:=kD w;apply cI H;obtain⟨p,q⟩:=dW w.heap.size;rw[<-q]at e|-;have v:=h.mod m eQ;refine Aw v (λj _ y a=>?_) λi G j _ y a=>?_
 ·have k:=a.hpk e id;rw[j]at c;refine qS0 ?_;refine qS0 ?_;refine qSt0 ?_;apply cx (oG pC) y (by simp[go_sem,oG,fL,pC]);obtain⟨A,t,g,f⟩:=jK (o' :=pC) k;apply ir t;apply dp (lM (o:=pC) (At.all g));exact c _ ((m.trans a).on f λb B=>gz)
 ·have k:=a.hpk e id;have z:=v.mod a eQ;obtain⟨⟨sl,x,E,J,N⟩,L,M⟩:=z;obtain⟨b,D,C,d,r⟩:=E.load G;rw[j]at c;refine qS0 ?_;refine qS0 ?_;refine qSf0 ?_;simp only[fQ,dr];refine qS1 x ?_;refine qS1 x ?_;apply cI (d _);apply cI r;obtain⟨A,t,g,f⟩:=jK (o' :=l[i]) k;apply ir t;apply dp (lM (o:=l[i]) (At.all g));exact c _ ((m.trans a).on f λb B=>gz)
def QL(h:lp w s F buy l)
  (x:∀t,M0 w t->K (.tuple #[oG (l.head?.getD pC),.bool l.head?.isSome]) t):Ca pQ 211 #[fQ s] w K:=by
 apply ZS;obtain⟨a,C,e,k⟩:=kD w;apply cI C;obtain⟨p,m⟩:=dW w.heap.size;rw[<-m]at e|-;have v:=h.mod k eQ;obtain⟨⟨sl,c,y,D,H⟩,E,G⟩:=id v;obtain⟨sa,sc,j,-⟩:=y.isSl;refine dK.at (λst W=>st=(.bool (decide (l.length=0)),())/\W=a) ?_ ?_
 ·apply sR v;refine qSf0 ?_;simp only[fQ,dr];refine qS1 c ?_;refine qS1 c ?_;apply jm (gI (l.length:Int)) a (by rw[j];simp[go_sem]);apply cx (.bool (decide (l.length=0))) a (by simp[go_sem];rw[iC];simp);exact sI
 rintro _ a ⟨rfl,rfl⟩;unfold Rm;intro _;cases l with
 |nil=>
  rw[cy,bZ (by simp)];apply cx (oG pC) a (by simp[go_sem,oG,fL,pC]);obtain⟨z,q,g,f⟩:=jK (o' :=pC) e;apply ir q;apply dp (lM (o:=pC) (At.all g));exact x _ (k.on f λb A=>gz)
 |cons o r=>
  rw[cy,aZ (by simp)];obtain⟨b,B,u,d,n⟩:=y.load (i:=0) (by simp);simp only[fQ,dr];refine qS1 c ?_;refine qS1 c ?_;apply cI (d .i64);apply cI n;obtain⟨z,q,g,f⟩:=jK (o' :=o) e;apply ir q;apply dp (lM (o:=o) (At.all g));exact x _ (k.on f λb A=>gz)
def Tp(h:lp w s F buy l)(d:K (gI (l.length:Int)) w):Ca pQ 179 #[fQ s] w K:=by
 obtain⟨⟨sl,b,c,e,i⟩,f,g⟩:=id h;obtain⟨sa,sc,a,-⟩:=c.isSl;apply aj4;apply sR h;refine qSf0 ?_;simp only[fQ,dr];refine qS1 b ?_;refine qS1 b ?_;apply jm (gI (l.length:Int)) w (by rw[a];simp[go_sem]);exact d
def Gx(h:lp w s F buy l)
  (q:∀j n e,lp e j n buy l->M0 w e->(∀b,n b->w.heap.size<=b)->K (fQ j) e):Ca pQ 105 #[fQ s] w K:=by
 obtain⟨⟨sl,r,t,x,y⟩,u,v⟩:=id h;apply aa1;apply sR h;refine qSf0 ?_;have md:M0 w w.drew:=mP;have d1:=md.hpk r id;simp only[fQ,dr];refine qP0 ?_;refine qW1 d1 ?_;refine qP0 ?_;refine qW1 d1 ?_;refine ww (l:=l) (t.mod md eQ).rd qZ λd a f k p=>?_;have o:=md.trans k;have d2:=k.hpk d1 id;refine⟨by simp[go_sem,d2],?_⟩;obtain⟨sa,sc,i,-⟩:=f.isSl;apply dX (.agg #[.bool true,.bool buy,d]) (λW=>by rw[i];simp[go_sem]);have m:M0 a (a.alloc (.cells #[.bool true,.bool buy,d] 188)):=lm;apply cx (fQ a.heap.size) (a.alloc (.cells #[.bool true,.bool buy,d] 188)) rfl;have g:=o.size;refine q a.heap.size (λb=>b=a.heap.size\/cK d b) _ ⟨⟨d,by simp[go_sem],f.mod m eQ,λb=>fd,λc=>?_⟩,u,v⟩ (o.trans m) λb c=>?_
 ·have:=f.lt c;omega
 ·rcases c with rfl|c
  ·exact g
  ·exact p b c
def JT{e f i v:Vt_}(h:hC W s #[e,f,i] 188)(g:∃a n c,v=.slice a n c):
  ∃d,(iS Av (pt s 2) v).run pQ W=.ok () d/\hC d s #[e,f,v] 188/\de (λb=>b=s) W d:=by
 obtain⟨a,n,c,rfl⟩:=g;refine⟨W.setCell ⟨s,2,none⟩ (.slice a n c),by simp[go_sem,h],by simp[go_sem,h],(de.refl (λb=>b=s) W).sc⟩
def Mp{i:Nat}(h:l.findIdx? (λx=>decide (x.num=n))=some i):tD l n=l.take i++l.drop (i+1):=by
 unfold tD;rw[List.eraseP_eq_eraseIdx,h];exact List.eraseIdx_eq_take_drop_succ l i
def Dz(h:lp w s F buy l)
  (D:∀F' w',lp w' s F' buy (tD l n)->de F w w' ->(∀b,F' b->F b\/w.heap.size<=b)->K (.tuple #[oG ((pI l n).getD pC),gI (if(pI l n).isSome then 0 else 7)]) w'):Ca pQ 170 #[fQ s,gQ n] w K:=by
 apply Zz;obtain⟨w1,e1,L,X⟩:=kD w;apply cI e1;obtain⟨p,t⟩:=dW w.heap.size;rw[<-t]at L|-;have h1:=h.mod X eQ;have j:∀{W W' :Wt_},M0 W W' ->de F W W' :=λm=>m.to;have U:∀{b},F b->b<p:=λa=>by rw[t];exact h.lt a
 refine Aw h1 (λP c x f=>?_) λi hi P r x f=>?_
 ·have E:=f.hpk L id
  have V:tD l n=l:=by
   unfold tD;rw[List.eraseP_eq_eraseIdx,c]
  rw[P,V]at D;refine qS0 ?_;refine qS0 ?_;refine qSt0 ?_;apply cx (oG pC) x (by simp[go_sem,oG,fL,pC]);obtain⟨w3,e3,y,C⟩:=jK (o' :=pC) E;apply ir e3;apply dp (lM (o:=pC) (At.all y));have M2:=X.trans f;exact D F _ ((h.mod M2 eQ).mod C λb a e=>by have:=U a;omega) ((j M2).on C λb a=>gz) λb a=>.inl a
 ·have E:=f.hpk L id;have h2:=h1.mod f eQ;obtain⟨⟨sl,T,H,c3,Y⟩,c5,c6⟩:=id h2;obtain⟨b,cap,hsl,c,J⟩:=H.load hi;rw[P,Mp r]at D;refine qS0 ?_;refine qS0 ?_;refine qSf0 ?_;simp only[fQ,dr];refine qS1 T ?_;refine qS1 T ?_;apply cI (c _);apply cI J;obtain⟨w3,e3,y,C⟩:=kD x;apply cI e3;obtain⟨q,S⟩:=dW x.heap.size;rw[<-S]at y|-;obtain⟨w4,e4,b4,m4⟩:=jK (o' :=l[i]) y;apply ir e4;have B:M0 x w4:=C.on m4 λb a=>gz;have d:=B.hpk T id;have Q:=B.hpk E id;have R:=H.mod B eQ;refine qS1 d ?_;refine qS1 d ?_;apply cx (gI ((i+1:Nat):Int)) w4 (by simp[go_sem];rw[wI_]);refine vq R (qH i) hi qZ λk w5 o5 z M=>?_;obtain⟨sa,sc,N,-⟩:=o5.isSl;have O:¬cK sl s:=Y;have u:¬cK sl p:=λa=>by have:=U ((c3 p).2 (.inr a));omega
  have Z:¬cK sl q:=λa=>by have:=H.lt a;omega
  have g:=z.hpk d O;have p5:=z.hpk Q u;have q5:=z.hpk b4 Z;refine qS1 g ?_;obtain⟨w6,e6,b6,A⟩:=JT (v:=k) g ⟨_,_,_,N⟩;apply ir e6;have hsp:s<p:=U h.self;have hpq:p<q:=by have:=cB E;omega
  have q6:=A.hpk q5 qZ;have p6:=A.hpk p5 qZ;apply cI (lM (o:=l[i]) (At.all q6));obtain⟨G,e7,b7,I⟩:=jK (o' :=l[i]) p6;apply ir e7;apply dp (lM (o:=l[i]) (At.all b7));have s7:=I.hpk b6 qZ;have o6:qR w6 k (l.take i++l.drop (i+1)):=o5.mod A λb a e=>Y (by rw[<-e];exact M b a);have o7:qR G k (l.take i++l.drop (i+1)):=o6.mod I λb a e=>u (by rw[<-e];exact M b a)
  have MF:de F w G:=by
   have a1:=j ((X.trans f).trans B);have a2:de F w w5:=a1.on z λb a=>.inl ((c3 b).2 (.inr a));have a3:de F w w6:=a2.on A λb a=>.inl (by rw[a];exact h.self);exact a3.on I λb a=>gz
  refine D (λb=>b=s\/cK k b) G ⟨⟨k,s7,o7,λb=>fd,λa=>Y (M s a)⟩,?_,?_⟩ MF λb a=>?_
  ·grind
  ·grind
  ·rcases a with rfl|a
   ·exact .inl h.self
   ·grind
def zD:∀(l:List Od) (i:Nat) (hi:i<l.length) (x:Int),(l.flatMap fL).set (i*5+4) (gI x)=(l.set i {l[i]with left:=x}).flatMap fL
 |o::l,0,_,x=>rfl
 |o::l,i+1,hi,x=>by
  have e:(i+1)*5+4=(fL o).length+(i*5+4):=by rw[gM];omega
  rw[eu,e,gh _ _ qZ,jN,zD l i (by simpa using hi) x];simp
def qR.setLeft{sl:Vt_}(h:qR w sl l){i:Nat}(hi:i<l.length)(x:Int):
  ∃b a e,sl=.slice (some ⟨b,0,none⟩) l.length a/\(∀k:IntKind,(iX Av sl (.int k (i:Int))).run pQ w=.ok (pt b (i*5)) w)/\
   (iF pz (pt b (i*5)) 4).run pQ w=.ok (pt b (i*5+4)) w/\(iL 2 (pt b (i*5+4))).run pQ w=.ok (gI l[i].left) w/\
   (iS 2 (pt b (i*5+4)) (gI x)).run pQ w=.ok () e/\qR e sl (l.set i {l[i]with left:=x})/\de (cK sl) w e:=by
 obtain⟨b,a,rest,rfl,p,f,o,g⟩:=h.pos qZ;have m:=h.1
 have c:(l.flatMap fL++rest)[i*5+4]? =some (gI l[i].left):=by
  rw[dC (by rw[m];omega)];have n:=oB fL 5 l i (λx _=>gM x) hi;have j:(((l.flatMap fL).drop (i*5)).take 5)[4]? =(fL l[i])[4]? :=by rw[n]
  rw[iE,bZ qZ,iY]at j;rw[j];rfl
 have d:((l.flatMap fL++rest).toArray.setIfInBounds (i*5+4) (gI x))=((l.set i {l[i]with left:=x}).flatMap fL++rest).toArray:=by
  rw[ed,gZ _ _ (by rw[m];omega),zD l i hi x]
 refine⟨b,a,w.setCell ⟨b,i*5+4,none⟩ (gI x),rfl,λk=>by simp[go_sem,hi,cS,mH],by simp[go_sem,cS],by simp[go_sem,fy f,c],by simp[go_sem,fy f,c],⟨by rw[wT gM,ey],.inr ⟨b,a,rest,by grind,by grind,?_,by grind,g⟩⟩,(de.refl _ w).setCell (.inl (show cK (.slice (some ⟨b,0,none⟩) l.length a) b from rfl)) _ _⟩;rw[nL,bZ rfl,f,iK,d]
def QD{r:List Od}(h:lp w s F buy (o::r))(h1:1<=n)(h2:n<=o.left)
  (hK:∀F' w',lp w' s F' buy (og (o::r) n)->de F w w' ->(∀b,F' b->F b\/w.heap.size<=b)->K (.tuple #[oG {o with left:=o.left - n},gI 0]) w'):Ca pQ 213 #[fQ s,gI n] w K:=by
 have D:=h.may o (by simp)
 have hm:1<=o.left/\o.left<=1000000:=by
  have:=D.1;unfold Od.may at this;simp only[cL]at this;exact dR this.2
 apply as7;obtain⟨I,e1,b1,m1⟩:=kD w;apply cI e1;obtain⟨p,L⟩:=dW w.heap.size;rw[<-L]at b1|-;have q1:=h.mod m1 eQ;have G:∀{W W' :Wt_},M0 W W' ->de F W W' :=λm=>m.to;have pF:∀{b},F b->b<p:=λa=>by rw[L];exact h.lt a
 have hsp:s<p:=pF h.self;obtain⟨⟨sl,t,c2,c3,P⟩,c5,c6⟩:=id q1;obtain⟨sa,sc,S,-⟩:=c2.isSl;have y:¬cK sl p:=λa=>by grind
 obtain⟨b,cap,w2,hsl',d,f,k,C,U,Z⟩:=c2.setLeft (i:=0) (by simp) (o.left - n);simp only[iN,nv,eU,List.set_cons_zero]at d f k C U;apply sR q1;refine qSf0 ?_;simp only[fQ,dr];refine qS1 t ?_;refine qS1 t ?_;apply jm (gI ((o::r).length:Int)) I (by rw[S];simp[go_sem]);have hne:¬(((o::r).length:Nat):Int)=0:=by simp;omega
 apply cx (.bool false) I (by simp only[go_sem];simp;omega);rw[gP];refine dK.at (λst W=>st=(.bool false,())/\W=I) ?_ ?_
 ·have h1' :¬n<1:=qZ;refine qSf1 h1' ?_;refine qS1 t ?_;refine qS1 t ?_;refine cI (d .i64) (cI f (cI k ?_));have X:¬o.left<n:=qZ;refine qS1 X ?_;exact sI
 rintro _ I ⟨rfl,rfl⟩;unfold PL;intro _;rw[gP];simp only[dr];refine qS1 t ?_;refine qS1 t ?_;refine cI (d .i64) (cI f (cI k ?_));apply cx (gI (o.left - n)) I (by simp[go_sem];rw[wI_]);refine cI (d .i64) (cI f ?_);apply ir C;have u:=Z.hpk t P;have p2:=Z.hpk b1 y;refine qS1 u ?_;refine qS1 u ?_;obtain⟨b',cap',hsl2,H,A⟩:=U.load (i:=0) (by simp);refine cI (H .i64) (cI A ?_);simp only[iN];obtain⟨w3,e3,b3,m3⟩:=kD w2;apply cI e3;obtain⟨q,T⟩:=dW w2.heap.size;rw[<-T]at b3|-;obtain⟨w4,e4,b4,m4⟩:=jK (o' :={o with left:=o.left - n}) b3;apply ir e4;have O:M0 w2 w4:=m3.on m4 λb a=>gz;have g:=O.hpk u id;have p4:=O.hpk p2 id;have o4:=U.mod O eQ;have hpq:p<q:=by have:=cB p2;omega
 have Y:¬cK sl q:=λa=>by grind
 have J:de F w w4:=((G m1).on Z λb a=>.inl ((c3 b).2 (.inr a))).trans (G O)
 have fin:∀(l:List Od) (c:Vt_) (W:Wt_),hC W s #[.bool true,.bool buy,c] 188->qR W c l->(∀b,cK c b->cK sl b)->hC W q (fL {o with left:=o.left - n}).toArray pz->hC W p (fL pC).toArray pz->
   de F w W->l=og (o::r) n->Jg (pt q 0) (pt p 0) K () W:=by
  intro l c W k1 k2 k3 k4 k5 k6 k7;unfold Jg;intro _;apply cI (lM (o:={o with left:=o.left - n}) (At.all k4));obtain⟨w7,e7,b7,Q⟩:=jK (o' :={o with left:=o.left - n}) k5;apply ir e7;apply dp (lM (o:={o with left:=o.left - n}) (At.all b7));have s7:=Q.hpk k1 qZ;have o7:qR w7 c l:=k2.mod Q λb a e=>y (by grind);subst k7;refine hK (λb=>b=s\/cK c b) w7 ⟨⟨c,s7,o7,λb=>fd,λa=>P (k3 s a)⟩,?_,?_⟩ (k6.on Q λb a=>gz) λb a=>?_
  ·unfold og;simp only;have:=c5;simp only[dc]at this;split
   ·omega
   ·grind
  ·intro x B;unfold og at B;simp only at B;by_cases z:o.left - n=0
   ·grind
   ·rw[aZ z]at B;rcases cH.1 B with rfl|B
    ·obtain⟨V,a2,a3⟩:=D;refine⟨?_,a2,a3.1,a3.2.1,a3.2.2.1,by grind⟩;unfold Od.may at V|-;simp only[cL]at V|-;exact⟨V.1,by unfold amongB;rw[dN];omega⟩
    ·grind
  ·rcases a with rfl|a
   ·exact .inl h.self
   ·grind
 refine dK.at (λst W=>∃c l,hC W s #[.bool true,.bool buy,c] 188/\qR W c l/\(∀b,cK c b->cK sl b)/\hC W q (fL {o with left:=o.left - n}).toArray pz/\hC W p (fL pC).toArray pz/\de F w W/\l=og (o::r) n) ?_ ?_
 ·have q4:=b4;unfold fL at q4;refine qS1 q4 ?_;refine qS1 q4 ?_;by_cases z:o.left - n=0
  ·refine qSt1 z ?_;refine qS1 g ?_;refine qS1 g ?_;refine vq (i:=0) (j:=1) o4 qZ (by simp) (by grind) λc w5 o5 M n5=>?_;obtain⟨xa,xc,R,-⟩:=o5.isSl;have E:=M.hpk g P;refine qS1 E ?_;obtain⟨w6,e6,b6,N⟩:=JT (v:=c) E ⟨_,_,_,R⟩;apply ir e6;refine⟨c,_,b6,o5.mod N λb a e=>P (by grind),n5,N.hpk (M.hpk b4 Y) qZ,N.hpk (M.hpk p4 y) qZ,(J.on M λb a=>.inl ((c3 b).2 (.inr a))).on N λb a=>.inl (by grind),?_⟩;unfold og;simp[z]
  ·refine qSf1 z ?_;refine⟨sl,_,g,o4,λb a=>a,b4,p4,J,?_⟩;unfold og;simp[z]
 ·grind
def Ob{left:Int}(h:lp w s F buy l)(o:jl left)
  (g:∀E t,lp t s E buy (wZ l n left).2->de F w t->(∀b,E b->F b\/w.heap.size<=b)->K (gI (wZ l n left).1) t):Ca pQ 173 #[fQ s,gQ n,gI left] w K:=by
 apply ao0;have e:∀{W D:Wt_},M0 W D->de F W D:=λm=>m.to;refine Aw h (λN d B f=>?_) λi y N k B f=>?_
 ·have:wZ l n left=(7,l):=by unfold wZ;rw[d]
  rw[this]at g;refine qS0 ?_;refine qS0 ?_;refine qSt0 ?_;exact g F _ (h.mod f eQ) (e f) λb c=>.inl c
 ·have a:wZ l n left=if left<1\/l[i].left<left then(2,l)else(0,l.set i {l[i]with left:=left}):=by
   unfold wZ;rw[k];simp only;rw[cE y]
  have L:=h.mod f eQ;obtain⟨⟨sl,p,P,H,J⟩,S,I⟩:=id L;obtain⟨b,O,M,G,d,j,A,u,Q,C⟩:=P.setLeft y left;refine qS0 ?_;refine qS0 ?_;refine qSf0 ?_;refine dK.at (λst W=>st=(.bool (decide (left<1\/l[i].left<left)),())/\W=B) ?_ ?_
  ·by_cases q:left<1
   ·refine qSt1 q ?_;simp[q]
   ·refine qSf1 q ?_;simp only[fQ,dr];refine qS1 p ?_;refine qS1 p ?_;refine cI (d .i64) (cI j (cI A ?_));refine qS0 ?_;simp[q]
  rintro _ B ⟨rfl,rfl⟩;unfold O5;intro _;by_cases c:left<1\/l[i].left<left
  ·rw[bZ c]at a;rw[a]at g;rw[qo c];exact g F _ L (e f) λb c=>.inl c
  ·rw[aZ c]at a;rw[a]at g;rw[DN c];simp only[fQ,dr];refine qS1 p ?_;refine qS1 p ?_;refine cI (d .i64) (cI j ?_);apply ir u;refine g (λb=>b=s\/cK sl b) M ⟨⟨sl,C.hpk p J,Q,λb=>fd,J⟩,by grind,λx z=>?_⟩ ((e f).on C λb c=>.inl ((H b).2 (.inr c))) λb c=>.inl ((H b).2 c);rcases gG z with z|rfl
   ·exact I x z
   ·obtain⟨r,R,v⟩:=I l[i] (cC y);refine⟨?_,R,v.1,v.2.1,v.2.2.1,o⟩;unfold Od.may at r|-;simp only[cL]at r|-;have T:=dR r.2;exact⟨r.1,by unfold amongB;rw[dN];omega⟩
def JG:(l.findIdx? λx=>decide (x.num=n)).isSome=l.any λx=>decide (x.num=n):=by
 rw[List.findIdx?_isSome]
def Ue(h:lp w s F buy l)(hof:o.Fit)
  (z:∀F' w',lp w' s F' buy (rX buy l o).2->de F w w' ->(∀b,F' b->F b\/w.heap.size<=b)->K (gI (rX buy l o).1) w'):Ca pQ 214 #[fQ s,oG o] w K:=by
 apply ac4;have t:∀{W W' :Wt_},M0 W W' ->de F W W' :=λm=>m.to;have m0:M0 w (w.alloc (.cells #[fQ s] 142)):=lm;obtain⟨p,J⟩:=dW w.heap.size;apply cx (pt p 0) (w.alloc (.cells #[fQ s] 142)) (by rw[J];simp[go_sem,fQ]);have b0:hC (w.alloc (.cells #[fQ s] 142)) p #[fQ s] 142:=by rw[J];simp[go_sem]
 generalize w.alloc (.cells #[fQ s] 142)=w0 at m0 b0|-;obtain⟨U,e1,b1,m1⟩:=vt o w0;apply cI e1;obtain⟨q,hq0⟩:=dW w0.heap.size;rw[<-hq0]at b1|-;have p1:=m1.hpk b0 id;have Z:=m0.trans m1;have X:=h.mod Z eQ;have pF:∀{b},F b->b<p:=λc=>by rw[J];exact h.lt c
 have g:∀{W},M0 U W->hC W p #[fQ s] 142:=λm=>m.hpk p1 id;have n:∀{W},M0 U W->hC W q (fL o).toArray pz:=λm=>m.hpk b1 id;refine qS1 p1 ?_;apply sR X;refine qSf0 ?_;refine dK.at (λst W=>st=(.bool (decide (¬o.may\/o.buy≠buy)),())/\M0 U W) ?_ ?_
 ·have md:M0 U U.drew:=mP;apply dp (lM (o:=o) (At.all (n md)));refine Ab λw2 H=>?_;have G:=md.trans H;apply dX (.bool (!o.may)) (λW=>by simp[go_sem]);cases hm:o.may with
  |false=>
   rw[cy,bZ (by simp)];exact⟨by simp,G⟩
  |true=>
   rw[cy,aZ (by simp)];have M:=n G;unfold fL at M;obtain⟨⟨sl,B,c2,c3,c4⟩,c5,c6⟩:=X.mod G eQ;have p2:=g G;refine qP0 ?_;refine qW1 M ?_;refine qW1 p2 ?_;simp only[fQ,dr];refine qP0 ?_;refine qW1 B ?_;apply dX (.bool (decide (o.buy≠buy))) (λW=>by cases o.buy<;>cases buy<;>simp[go_sem]);exact⟨by simp,G⟩
 rintro _ w2 ⟨rfl,H⟩;unfold Rj;intro _;have G:=Z.trans H;have R:=X.mod H eQ;by_cases d:¬o.may\/o.buy≠buy
 ·have I:rX buy l o=(2,l):=by unfold rX;rw[bZ d]
  rw[I]at z;rw[qo d];exact z F _ R (t G) λb c=>.inl c
 rw[DN d];have p2:=g H;have M:=n H;refine qS1 p2 ?_;unfold fL at M;refine qS1 M ?_;refine qS1 M ?_;refine Rw R λw3 m3=>?_;have M3:=H.trans m3;have T:=Z.trans M3;have h3:=R.mod m3 eQ;by_cases j:(l.any λx=>decide (x.num=o.num))=true
 ·have I:rX buy l o=(8,l):=by unfold rX;rw[aZ d,bZ j]
  rw[I]at z;rw[<-JG]at j;obtain⟨i,hi⟩:=kY.1 j;obtain⟨_,_,_,e⟩:=xq hi;rw[e];refine qSt0 ?_;exact z F _ h3 (t T) λb c=>.inl c
 have hno:(l.findIdx? λx=>decide (x.num=o.num))=none:=by
  cases D:l.findIdx? λx=>decide (x.num=o.num)with
  |none=>rfl
  |some i=>exact absurd (by grind) j
 rw[(zm hno).2];refine qSf0 ?_;obtain⟨⟨sl,B,c2,c3,c4⟩,c5,c6⟩:=id h3;obtain⟨sa,sc,N,-⟩:=c2.isSl;have p3:=g M3;refine qS1 p3 ?_;simp only[fQ,dr];refine qS1 B ?_;refine qS1 B ?_;apply jm (gI (l.length:Int)) w3 (by rw[N];simp[go_sem]);by_cases r:100<=l.length
 ·have I:rX buy l o=(9,l):=by unfold rX;rw[aZ d,aZ j,bZ r]
  rw[I]at z;have f:(100:Int)<=(l.length:Int):=qZ;refine qSt1 f ?_;exact z F _ h3 (t T) λb c=>.inl c
 have f:¬(100:Int)<=(l.length:Int):=qZ;refine qSf1 f ?_;have I:rX buy l o=(0,tK buy l o):=by unfold rX;rw[aZ d,aZ j,aZ r]
 rw[I]at z;refine qS1 p3 ?_;simp only[fQ,dr];refine qS1 B ?_;refine qS1 B ?_;refine wE (p:=λx=>sx buy o.price x.price) c2.rd qZ ⟨_,_,rfl,λx A W mW K' hK' =>?_⟩ λk m4=>?_
 ·apply am3;obtain⟨W1,e1,d1,n1⟩:=vt x W;apply cI e1;have MW:=(M3.trans mW).trans n1;have pW:=g MW;have qW:=n MW;unfold fL at d1 qW;refine qS1 pW ?_;refine qS1 qW ?_;refine qS1 qW ?_;refine qS1 d1 ?_;refine qS1 d1 ?_;apply DE (X.mod MW eQ);exact hK' _ n1
 have Q:=M3.trans m4;have h4:=h3.mod m4 eQ;have u:=m4.hpk B id
 have V:J9 buy l o.price<=l.length:=by
  unfold J9;cases D:l.findIdx? λx=>sx buy o.price x.price with
  |none=>exact cJ _
  |some i=>
   obtain⟨hi,_⟩:=xq D;simp only[fT];omega
 refine dK.at (λst W=>st=(gI (J9 buy l o.price:Nat),())/\W=k) ?_ ?_
 ·cases D:l.findIdx? λx=>sx buy o.price x.price with
  |none=>
   rw[(zm D).2];refine qSt0 ?_;have p4:=g Q;refine qS1 p4 ?_;simp only[fQ,dr];refine qS1 u ?_;refine qS1 u ?_;apply jm (gI (l.length:Int)) k (by rw[N];simp[go_sem]);refine⟨?_,rfl⟩;unfold J9;rw[D];rfl
  |some i=>
   obtain⟨_,_,_,e⟩:=xq D;rw[e];refine qSf0 ?_;refine⟨?_,rfl⟩;unfold J9;rw[D];rfl
 rintro _ k ⟨rfl,rfl⟩;unfold PC;intro _;have md:M0 k k.drew:=mP;have pd:=g (Q.trans md);have qd:=n (Q.trans md);have cd:=md.hpk u id;refine qW1 pd ?_;refine qW1 pd ?_;simp only[fQ,dr];refine qP0 ?_;refine qW1 cd ?_;apply dp (lM (o:=o) (At.all qd));refine oJ [oG o] mH (eO Oh) rfl rfl (by intro v hv;rw[eK.1 hv];rfl) qZ ?_;have e0:(([oG o]:LV_).flatMap (·.cells.toList)).toArray=(fL o).toArray:=rfl;rw[e0];have m5:M0 k.drew (k.drew.alloc (.cells (fL o).toArray pz)):=lm;have S:=md.trans m5
 have P:qR (k.drew.alloc (.cells (fL o).toArray pz)) (.slice (some ⟨k.drew.heap.size,0,none⟩) 1 1) [o]:=
  ⟨rfl,.inr ⟨_,1,[],rfl,cJ _,by rw[gy,bZ rfl];simp,by simp,by simp⟩⟩
 have Y:∀b,cK (.slice (some ⟨k.drew.heap.size,0,none⟩) 1 1) b->b=k.drew.heap.size:=λb c=>by cases c;rfl
 generalize k.drew.alloc (.cells (fL o).toArray pz)=w5 at m5 S P|-;have p5:=g (Q.trans S);have C:=S.hpk u id;refine⟨by simp[go_sem,C],by simp[go_sem,p5,fQ],by simp[go_sem,p5,fQ],?_⟩;obtain⟨⟨L,k1,k2,k3,k4⟩,k5,k6⟩:=h4.mod S eQ
 have esl:L=sl:=by
  have:=C.symm.trans k1;simp only[jr,Obj.cells.injEq]at this;have:=fC (λa:Array Value=>a[2]?) this.1;simp at this;exact this.symm
 subst esl;have O:∀b,cK L b->b<w3.heap.size:=λb c=>c2.lt c;have hsz43:=m4.size;refine GL k2 P (λb c hb' =>by have X:=O b c;have R:=Y b hb';rw[Ed]at R;omega) V qZ λs6 w6 o6 m6 n6=>?_;obtain⟨xa,xc,hs6,-⟩:=o6.isSl;have hps:¬cK L p:=λc=>by grind
 have p6:=m6.hpk p5 hps;have c6' :=m6.hpk C k4;refine⟨by simp[go_sem,p6,fQ],?_⟩;refine qP0 ?_;obtain⟨w7,e7,b7,m7⟩:=JT (v:=s6) c6' ⟨_,_,_,hs6⟩;apply ir e7;have E:=Z.trans (Q.trans S)
 have y:¬cK s6 s:=λc=>by
  rcases n6 s c with h' |h'
  ·exact k4 h'
  ·have:=pF h.self;have:=E.size;omega
 have MF:de F w w7:=((t E).on m6 λb c=>.inl ((k3 b).2 (.inr c))).on m7 λb c=>.inl (by grind);refine z (λb=>b=s\/cK s6 b) w7 ⟨⟨s6,b7,o6.mod m7 λb c e=>y (by grind),λb=>fd,y⟩,?_,?_⟩ MF λb c=>?_
 ·unfold tK;rw[cD,cZ,dc,dV,fS V];omega
 ·intro x A;unfold tK at A;rcases dg.1 A with A|A
  ·grind
  ·rcases cH.1 A with rfl|A
   ·have:x.may=true/\x.buy=buy:=by
     constructor
     ·grind
     ·grind
    exact⟨this.1,this.2,hof⟩
   ·grind
 ·rcases c with rfl|c
  ·exact .inl h.self
  ·rcases n6 b c with h' |h'
   ·grind
   ·have:=E.size;exact gz
end Go.Proofs
namespace Go.Vc
open Go Go.Shelf Go.RowKit Go.Lib Go.Sort Go.Proofs
def Dk{P:Program}(h:wV P=true){g:FuncId}(f:∃fn,P.funcs[g]? =some fn/\fn.body.isSome=true)(c:Array Value)(w:World):(callFunc g c).run P w=.ok (.enter g c) w:=by
 obtain⟨fn,e,f⟩:=f
 have d:(fn.name== "runtime.NumGoroutine")=false:=by
  have:=(nh.1 h) fn (Array.mem_of_getElem? e);simpa using this
 have a:¬fn.name= "runtime.NumGoroutine" :=by simpa using d
 have b:¬fn.body=none:=by grind
 unfold callFunc;simp[fE,Result.andThen,e,a,b]
def Af{α:Type} [Inhabited α](enc:α->List Value)(k:Nat)(c:0<k)(a:∀x,(enc x).length=k)(d:Array α):(flatK enc k d).toList=d.toList.flatMap enc:=by
 have l:(d.toList.flatMap enc).length=d.size*k:=by rw[uE enc k _ λx _=>a x];simp
 apply ny;intro t;by_cases e:t<d.size*k
 ·have i:(flatK enc k d).toList[t]? =some (flatK enc k d)[t]! :=by
   rw[nN,kz (by simpa using e),jP _ t (by simpa using e)]
  rw[i,get_flatK enc k d t e];have f:t / k<d.size:=Nat.div_lt_of_lt_mul (by grind);have b:t%k<k:=gR _ c;have g:=oB enc k d.toList (t / k) (λx _=>a x) (by simpa using f)
  have j:(d.toList.flatMap enc)[t]? =((d.toList.flatMap enc).drop (t / k*k) |>.take k)[t%k]? :=by
   rw[iE,bZ b,iY,qK]
  rw[j,g]
  have h:d[t / k]! =d.toList[t / k]'(by simpa using f):=by
   rw[jP d _ f];simp
  rw[h,jP _ _ (by rw[a];exact b),cE (by rw[a];exact b)]
 ·rw[ky (by simp;omega),ky qZ]
def Gj(F rest cs:List Value)(h:F.length=cs.length):putCells id 0 F.toArray (cs++rest).toArray=(F++rest).toArray:=by
 apply Array.ext_getElem?;intro t;simp only[putCells,Array.getElem?_mapIdx,eX,eT,nY,tJ,eU,lz,id];by_cases a:t<F.length
 ·grind
 ·grind
section
variable{P:Program}{ρ:Ren}{α:Type} [Inhabited α]
def Hq(hP:wV P=true)(L:SlLaysF0.n6 P ρ)(k:Nat)(S:pY P (ρ.t 24)=true)(U:P.cellsOf (ρ.t 24)=k+1)(enc:α->List Value)(s:∀x,(enc x).length=k+1)(V:∀x,(enc x).all (·.oneCell')=true)
  (cf:α->α->Int)(X:SWO (ltOf cf))(g:Nat)(A:∀(x y:α) (W:World),Ca P g #[.agg (enc x).toArray,.agg (enc y).toArray] W λv w' =>v=.int .i64 (cf x y)/\∃q os,w' =grow (W.drewN q) os)
  {e:TypeId}{w:World}{sl:Value}{n:Nat}{d:List α}{K:cG}(O:jo w e (k+1) sl n (d.flatMap enc))(hn:n<4611686018427387904)
  (N:∀(w' :World) (a:List α),jo w' e (k+1) sl n (a.flatMap enc)->a.Perm d->a.Pairwise (λx y=>ltOf cf y x=false)->de (cK sl) w w' ->K (.tuple #[]) w'):
  Ca P (ρ.f 6) #[sl,.func (.func g) #[] #[]] w K:=by
 have h:d.length=n:=by
  have:=O.1;rw[uE enc (k+1) d λx _=>s x]at this;exact Nat.eq_of_mul_eq_mul_right (ri k) this
 obtain⟨Q,⟨rfl,rfl⟩|⟨b,p,rest,rfl,hc,C,hr,I⟩⟩:=O
 ·have R:d=[]:=List.length_eq_zero_iff.1 h;subst R;have:=AnyF.slices_SortFunc_none L none 0 (.func (.func g) #[] #[]) w;exact⟨nM this λe w' ⟨M,F⟩=>⟨_,M,by subst F;exact N _ [] (jo.nil ..) (fw _) List.Pairwise.nil lX⟩⟩
 ·have T:b<w.heap.size:=cB C;have J:=Dk hP (A default default w).bodied
  have hH:HoldsK enc (k+1) w b 0 d.toArray:=by
   intro j D;rw[size_flatK]at D
   have Z:(flatK enc (k+1) d.toArray)[j]! =(d.flatMap enc)[j]'(by grind):=by
    rw[jP _ j (by rw[size_flatK];exact D),<-Array.getElem_toList];congr 1;exact Af enc (k+1) (ri k) s d.toArray
   have G:j<(d.flatMap enc).length:=by grind
   constructor
   ·simp only[World.cell?,C,eU];rw[Z];simp[dC G]
   ·simp[World.frozen?,C]
  have z:CmpLays P g #[] enc (k+1) cf b 0 d.toArray.size w:=λm os dk _ x y=>by
   apply nM (A x y _).out;rintro e w' ⟨v,rfl,rfl,F⟩;exact⟨rfl,F⟩
  have l:=AnyQ.slices_SortFunc L (k+1) (AS S) (oK U) enc s (λx v hv=>dF.1 (V x) v hv) cf X g #[] b 0 p d.toArray w J z hH T (by grind);rw[show d.toArray.size=n by simpa using h]at l;refine⟨nM l ?_⟩;rintro e' w' ⟨rfl,a,m,os,hp,hs,rfl⟩;refine⟨_,rfl,?_⟩;have u:a.size=n:=by rw[hp.1];simpa using h
  have H:(flatK enc (k+1) a).toList=a.toList.flatMap enc:=Af enc (k+1) (ri k) s a;have B:flatK enc (k+1) a=(a.toList.flatMap enc).toArray:=by rw[<-H]
  have c:(a.toList.flatMap enc).length=(d.flatMap enc).length:=by
   rw[Q,uE enc (k+1) _ λx _=>s x];simp[u]
  have o:∀f,f<w.heap.size->(sortWorldK enc (k+1) w b 0 m a os).heap[f]? =if f=b then some (.cells (a.toList.flatMap enc++rest).toArray e (0,0))else w.heap[f]? :=by
   intro f r;show((w.heap.modify b (onCells (putCells id 0 (flatK enc (k+1) a))))++os)[f]? =_;rw[Array.getElem?_append_left (by simpa using r),nT];by_cases M:f=b
   ·subst M;rw[bZ rfl,bZ rfl,C];simp only[iD,onCells];rw[B,Gj _ _ _ c]
   ·grind
  have t:de (cK (.slice (some ⟨b,0,none⟩) n p)) w (sortWorldK enc (k+1) w b 0 m a os):=by
   refine⟨?_,rfl,rfl,λf r hf=>?_⟩
   ·grind
   ·rw[o f r,aZ (λe=>hf (by subst e;rfl))]
  refine N _ a.toList ⟨by rw[c,Q],.inr ⟨b,p,rest,rfl,hc,by grind,hr,I⟩⟩ ?_ ?_ t
  ·have:=hp.2.2;have e1:a.extract 0 n=a:=by rw[<-u];simp
   have Y:d.toArray.extract 0 n=d.toArray:=by rw[<-h];simp
   rw[e1,Y]at this;simpa using this
  ·rw[eI];intro i j hi D E;have:=hs i j (nY _) E (by grind);rw[jP a i (by simpa using hi),jP a j (by simpa using D)]at this;simpa using this
end
end Go.Vc
namespace Go.Proofs
open Go Go.Vc Go.Shelf Go.RowKit Go.Lib Go.Sort
def eM{p:Prop}(h:p:=by first|kernel_rfl|(intro _;kernel_rfl)):p:=h
def fb{p:Prop} [Decidable p](h:decide p=true:=by decide):p:=dR h
def Tryz.sortAc_ren:Ren:=⟨λ|6=>100|15=>150|14=>149|28=>192|29=>193|20=>184|21=>185|22=>186|23=>187|24=>188|25=>189|26=>190|27=>191|46=>222|47=>223|48=>224|49=>225|50=>226|57=>250|n=>n,λ|22=>56|24=>70|25=>182|3=>3|39=>203|0=>0|53=>23|55=>24|4=>4|46=>295|45=>294|50=>210|5=>5|9=>9|66=>327|70=>330|76=>349|77=>350|n=>n,λ|n=>n⟩
def Tryz.sortAc:SlLaysF0.n6 Tryz.prog Tryz.sortAc_ren:=⟨eM,⟨Tryz.f100.name,fb,eM⟩,⟨Tryz.f149.name,fb,eM⟩,eM,⟨Tryz.f184.name,fb,eM⟩,⟨Tryz.f185.name,fb,eM⟩,⟨Tryz.f186.name,fb,eM⟩,⟨Tryz.f187.name,fb,eM⟩,⟨Tryz.f188.name,fb,eM⟩,⟨Tryz.f189.name,fb,eM⟩,⟨Tryz.f190.name,fb,eM⟩,⟨Tryz.f191.name,fb,eM⟩,eM,eM,⟨Tryz.f222.name,fb,eM⟩,eM,eM,⟨Tryz.f225.name,fb,eM⟩,⟨Tryz.f226.name,fb,eM⟩,⟨Tryz.f250.name,fb,eM⟩,eM,eM,eM,eM,eM,eM,eM,eM,eM,eM,eM,eM,eM,eM,eM,eM,eM,eM,eM,eM,eM,eM,eM,eM,eM,eM,eM,eM,eM,eM,eM,eM,eM,eM,eM,eM,eM,eM,eM,eM,eM,eM,eM,eM,eM,eM,eM,eM,eM,eM,eM,eM,eM,eM,eM,eM,eM,eM,eM,eM,eM,eM,eM,eM,eM,eM,eM,eM⟩
def Tryz.sortPo_ren:Ren:=⟨λ|6=>153|15=>150|14=>194|28=>192|29=>193|20=>227|21=>228|22=>229|23=>230|24=>231|25=>232|26=>233|27=>234|46=>251|47=>223|48=>224|49=>252|50=>253|57=>262|n=>n,λ|22=>58|24=>79|25=>242|3=>3|39=>203|0=>0|53=>23|55=>24|4=>4|46=>295|45=>294|50=>210|5=>5|9=>9|66=>327|70=>330|76=>349|77=>350|n=>n,λ|n=>n⟩
def Tryz.sortPo:SlLaysF0.n6 Tryz.prog Tryz.sortPo_ren:=⟨eM,⟨Tryz.f153.name,fb,eM⟩,⟨Tryz.f194.name,fb,eM⟩,eM,⟨Tryz.f227.name,fb,eM⟩,⟨Tryz.f228.name,fb,eM⟩,⟨Tryz.f229.name,fb,eM⟩,⟨Tryz.f230.name,fb,eM⟩,⟨Tryz.f231.name,fb,eM⟩,⟨Tryz.f232.name,fb,eM⟩,⟨Tryz.f233.name,fb,eM⟩,⟨Tryz.f234.name,fb,eM⟩,eM,eM,⟨Tryz.f251.name,fb,eM⟩,eM,eM,⟨Tryz.f252.name,fb,eM⟩,⟨Tryz.f253.name,fb,eM⟩,⟨Tryz.f262.name,fb,eM⟩,eM,eM,eM,eM,eM,eM,eM,eM,eM,eM,eM,eM,eM,eM,eM,eM,eM,eM,eM,eM,eM,eM,eM,eM,eM,eM,eM,eM,eM,eM,eM,eM,eM,eM,eM,eM,eM,eM,eM,eM,eM,eM,eM,eM,eM,eM,eM,eM,eM,eM,eM,eM,eM,eM,eM,eM,eM,eM,eM,eM,eM,eM,eM,eM,eM,eM,eM,eM⟩
end Go.Proofs
namespace Go.Proofs
open Go Go.Vc Go.Sort
variable {cl:Bool}{c price:Int}{S:Led}{F:NP_}{n b l:Nat}{T:TypeId}{sl:Vt_}{w:Wt_}{K:cG}
def xj(W:Wt_)(o o' :Obj):∃q os,(W.alloc o).alloc o' =grow (W.drewN q) os:=
 ⟨0,#[o]++ #[o'],by rw[alloc_eq_grow,alloc_eq_grow,grow_grow];rfl⟩
def Bn(x y:Ac):Int:=if x.num<y.num then -1 else 1
def zw(x y:Po):Int:=if klt x.key y.key then -1 else if x=y then 0 else 1
def Qc(x y:Ac):ltOf Bn x y=decide (x.num<y.num):=by
 unfold ltOf Bn;split<;>simp_all
def QM(x y:Po):ltOf zw x y=klt x.key y.key:=by
 unfold ltOf zw;cases h:klt x.key y.key
 ·grind
 ·simp
def ah2:SWO (ltOf Bn) where
 irrefl x:=by rw[Qc];simp
 trans x y z h1 h2:=by rw[Qc]at*;simp at*;omega
 ntrans x y z h1 h2:=by rw[Qc]at*;simp at*;omega
def ao2:SWO (ltOf zw) where
 irrefl x:=by rw[QM];exact klt_irr
 trans x y z h1 h2:=by rw[QM]at*;exact klt_trans h1 h2
 ntrans x y z h1 h2:=by
  rw[QM]at*;rw[kI,Ne,klt_iff]at*;omega
def Px(x y:Ac)(W:Wt_):Ca pQ 101 #[.agg (dH x).toArray,.agg (dH y).toArray] W λv a=>v=gI (Bn x y)/\∃q os,a=grow (W.drewN q) os:=by
 apply as0;simp[go_sem,dH];unfold Bn;split
 ·exact⟨rfl,xj ..⟩
 ·exact⟨rfl,xj ..⟩
def Rk(x y:Po)(W:Wt_):Ca pQ 154 #[.agg (ec x).toArray,.agg (ec y).toArray] W λv o=>v=gI (zw x y)/\∃q os,o=grow (W.drewN q) os:=by
 apply ak5;simp[go_sem,ec];generalize d:World.alloc _ _=f;have h:∃q os,f=grow (W.drewN q) os:=by subst d;exact xj ..
 have n:hC f W.heap.size #[.int .u32 x.c,gU x.a,gI x.q,gI x.b] 79:=by subst d;simp[go_sem]
 have l:hC f (W.heap.size+1) #[.int .u32 y.c,gU y.a,gI y.q,gI y.b] 79:=by subst d;simp[go_sem]
 refine dK.at (λs p=>s=(.bool (klt x.key y.key),())/\p=f) ?_ ?_
 ·simp[go_sem,fy n,fy l];unfold klt Po.key;by_cases e:x.c<y.c
  ·simp[e]
  ·by_cases g:x.c=y.c
   ·simp[e,g]
   ·simp[e,g]
 rintro _ f ⟨rfl,rfl⟩;unfold Oo;intro _;cases j:klt x.key y.key
 ·simp[go_sem,fy n,fy l]
  have i:x=y↔x.c=y.c/\x.a=y.a/\x.q=y.q/\x.b=y.b:=by
   obtain⟨c,a,q,b⟩:=x;obtain⟨r,u,w,t⟩:=y;simp
  by_cases e:x.c=y.c<;>by_cases g:x.a=y.a<;>by_cases m:x.q=y.q<;>by_cases k:x.b=y.b<;>simp[e,g,m,k]<;>exact⟨by simp[zw,j,i,e,g,m,k],h⟩
 ·simp;exact⟨by simp[zw,j],h⟩
def az8:lN pQ 70 4 24=true:=cU
def Nh{d:List Ac}(b:jo w 70 4 sl n (d.flatMap dH))(e:n<4611686018427387904)
  (c:∀(w' :Wt_) (a:List Ac),jo w' 70 4 sl n (a.flatMap dH)->a.Perm d->a.Pairwise (λx y=>ltOf Bn y x=false)->de (cK sl) w w' ->K (.tuple #[]) w'):
  Ca pQ 100 #[sl,.func (.func 101) #[] #[]] w K:=
 Hq (P:=pQ) (α:=Ac) Tryz.noNum Tryz.sortAc 3 cU cU dH (λ_=>rfl) (λ_=>rfl) Bn ah2 101 Px b e c
def I1{y:Vt_}{xs:List Ac}(J:Nat->World->Prop)(F:World->Prop){W:Wt_}{K:cG}(I:hC W b #[sl] T)(v:jo W 70 4 sl n (xs.flatMap dH))(U:n<4611686018427387904)
  (H:J 0 W)(l:∀i W a,J i W->M0 W a->J i a)
  (d:∀i x W,xs[i]? =some x->J i W->∀A:cG,(∀a,J (i+1) a->(∀b,cK sl b->a.heap[b]? =W.heap[b]?)->A (.bool true) a)->(∀a,F a->A (.bool false) a)->iv pQ y [oz x] W A)
  (g:∀W,J xs.length W->K (.tuple #[]) W)(z:∀W,F W->K (.tuple #[]) W):Ca pQ 151 #[y,.pointer (some ⟨b,0,none⟩)] W K:=by
 have u:xs.length=n:=by
  have:=v.1;rw[uE dH 4 xs λx _=>rfl]at this;omega
 obtain⟨sa,sc,rfl,Q⟩:=v.isSl;apply aj3;simp[go_sem,fy I]
 refine Bt (λs a=>∃i:Nat,i<=n/\s=(gI i,())/\J i a/\jo a 70 4 (.slice sa n sc) n (xs.flatMap dH))
  (λs _=>match s.1 with| .int _ i=>n - i.toNat|_=>0) ⟨0,qZ,rfl,H,v⟩ ?_
 rintro⟨_,_⟩ a ⟨i,S,⟨⟩,D,B⟩ R q;unfold Q7;intro _;by_cases f:i<n
 ·obtain⟨G,t,M,m⟩:=jo.elem B f;obtain⟨rfl,-,rfl⟩:sa=some ⟨G,0,none⟩/\True/\sc=t:=by grind
  rw[oB dH 4 _ _ (λ_ _=>rfl) qZ]at m;obtain⟨C,e,fz,hC,c⟩:=m.get;have j:=c 0 _ rfl;have p:=c 1 _ rfl;have h:=c 2 _ rfl;have k:=c 3 _ rfl;simp only[eU,dS]at j p h k;have w:IntKind.i64.wrap ((i:Int)+1)=((i+1:Nat):Int):=by rw[eF];omega
  simp[-Int.natCast_add,go_sem,f,hC,j,p,h,k];have O:xs[i]? =some xs[i]:=cE qZ;have E:∀o,M0 a (a.alloc o):=λo=>(de.refl _ a).alloc o;refine d i _ _ O (l _ _ _ D (E _)) _ (λP r L=>?_) (λP N=>?_)
  ·simp[-Int.natCast_add,go_sem,w];refine q _ _ ⟨i+1,qZ,rfl,r,(B.mod (E _) eQ).keep L⟩ (by simp;omega)
  ·simp[go_sem];exact z _ N
 ·obtain rfl:i=n:=qZ;simp[go_sem];exact g _ (u▸D)
def NU{d:List Po}(b:jo w 79 4 sl n (d.flatMap ec))(e:n<4611686018427387904)
  (c:∀(w' :Wt_) (a:List Po),jo w' 79 4 sl n (a.flatMap ec)->a.Perm d->a.Pairwise (λx y=>ltOf zw y x=false)->de (cK sl) w w' ->K (.tuple #[]) w'):
  Ca pQ 153 #[sl,.func (.func 154) #[] #[]] w K:=
 Hq (P:=pQ) (α:=Po) Tryz.noNum Tryz.sortPo 3 cU cU ec (λ_=>rfl) (λ_=>rfl) zw ao2 154 Rk b e c
def Ja{y:Vt_}{xs:List Po}(J:Nat->World->Prop)(F:World->Prop){W:Wt_}{K:cG}(I:hC W b #[sl] T)(v:jo W 79 4 sl n (xs.flatMap ec))(U:n<4611686018427387904)
  (H:J 0 W)(l:∀i W a,J i W->M0 W a->J i a)
  (d:∀i x W,xs[i]? =some x->J i W->∀A:cG,(∀a,J (i+1) a->(∀b,cK sl b->a.heap[b]? =W.heap[b]?)->A (.bool true) a)->(∀a,F a->A (.bool false) a)->iv pQ y [tn x] W A)
  (g:∀W,J xs.length W->K (.tuple #[]) W)(z:∀W,F W->K (.tuple #[]) W):Ca pQ 195 #[y,.pointer (some ⟨b,0,none⟩)] W K:=by
 have u:xs.length=n:=by
  have:=v.1;rw[uE ec 4 xs λx _=>rfl]at this;omega
 obtain⟨sa,sc,rfl,Q⟩:=v.isSl;apply as5;simp[go_sem,fy I]
 refine Bt (λs a=>∃i:Nat,i<=n/\s=(gI i,())/\J i a/\jo a 79 4 (.slice sa n sc) n (xs.flatMap ec))
  (λs _=>match s.1 with| .int _ i=>n - i.toNat|_=>0) ⟨0,qZ,rfl,H,v⟩ ?_
 rintro⟨_,_⟩ a ⟨i,S,⟨⟩,D,B⟩ R q;unfold P3;intro _;by_cases f:i<n
 ·obtain⟨G,t,M,m⟩:=jo.elem B f;obtain⟨rfl,-,rfl⟩:sa=some ⟨G,0,none⟩/\True/\sc=t:=by grind
  rw[oB ec 4 _ _ (λ_ _=>rfl) qZ]at m;obtain⟨C,e,fz,hC,c⟩:=m.get;have j:=c 0 _ rfl;have p:=c 1 _ rfl;have h:=c 2 _ rfl;have k:=c 3 _ rfl;simp only[eU,dS]at j p h k;have w:IntKind.i64.wrap ((i:Int)+1)=((i+1:Nat):Int):=by rw[eF];omega
  simp[-Int.natCast_add,go_sem,f,hC,j,p,h,k];have O:xs[i]? =some xs[i]:=cE qZ;have E:∀o,M0 a (a.alloc o):=λo=>(de.refl _ a).alloc o;refine d i _ _ O (l _ _ _ D (E _)) _ (λP r L=>?_) (λP N=>?_)
  ·simp[-Int.natCast_add,go_sem,w];refine q _ _ ⟨i+1,qZ,rfl,r,(B.mod (E _) eQ).keep L⟩ (by simp;omega)
  ·simp[go_sem];exact z _ N
 ·obtain rfl:i=n:=qZ;simp[go_sem];exact g _ (u▸D)
def Tq{d l:List Ac}(c:SortA l)(hp:d.Perm l)(k:d.Pairwise λx y=>ltOf Bn y x=false):d=l:=by
 refine hp.eq_of_pairwise (λa b m o i g=>?_) k (c.imp λh=>?_)
 ·rw[Qc]at i g;simp only[jh]at i g;have f:=hp.mem_iff.1 m;have e:a.num=b.num:=qZ;have j:=Led.find_some (S:=⟨0,l,[]⟩) c f;have n:=Led.find_some (S:=⟨0,l,[]⟩) c o;rw[e,n]at j;exact(dB j).symm
 ·rw[Qc];simp only[jh];omega
def Ty{d l:List Po}(f:SortP l)(hp:d.Perm l)(k:d.Pairwise λx y=>ltOf zw y x=false):d=l:=by
 refine hp.eq_of_pairwise (λa b m o g c=>?_) k (f.imp λh=>?_)
 ·rw[QM]at g c;have i:=hp.mem_iff.1 m
  have e:a.key=b.key:=by
   rcases klt_tri a.key b.key with h|h|h
   ·rw[h]at c;cases c
   ·exact h
   ·rw[h]at g;cases g
  have j:=Led.pos_some (S:=⟨0,[],l⟩) f i;have n:=Led.pos_some (S:=⟨0,[],l⟩) f o;rw[e,n]at j;exact(dB j).symm
 ·rw[QM];exact klt_asymm h
def Pf{e ty f:TypeId}{k by_:Nat}{α:Type}{enc:α->List Value}{v:Vt_}{d:List α}{x:α}(g:Tryz.prog.underlying f=some (.slice e))(p:lN pQ e (k+1) by_=true)(q:(enc x).length=k+1)(u:(enc x).all (·.oneCell')=true)(E:k<1000)(j:by_<=10000)
  (z:jo w e (k+1) v d.length (d.flatMap enc))(D:d.length<4294967296)
  (y:∀c a,jo a e (k+1) c (d++[x]).length ((d++[x]).flatMap enc)->de (cK v) w a->(∀b,cK c b->cK v b\/w.heap.size<=b)->K c a):
  rx pQ (jQ f 1 [(0,.agg (enc x).toArray)]) w λl i=>rx pQ (eg #[f,f] ty [v,l]) i K:=by
 refine oJ (e:=e) (sz:=k+1) [.agg (enc x).toArray] g (eO p) rfl rfl (by simp[Value.cells,q]) qZ ?_;have r:∀o,M0 w (w.alloc o):=λo=>(de.refl _ w).alloc o
 have A:Rd (w.alloc (.cells (([Value.agg (enc x).toArray].flatMap (·.cells.toList)).toArray) e)) (k+1) (.slice (some ⟨w.heap.size,0,none⟩) 1 1) 1 (enc x):=by
  refine⟨by rw[q];omega,.inr ⟨_,0,1,rfl,cJ _,⟨_,_,_,by rw[gy,bZ rfl],?_,?_⟩⟩⟩
  ·simp[Value.cells]
  ·simp[Value.cells]
 refine jR (n:=d.length) (m:=1) g g (eO p) (z.mod (r _) eQ) A u ?_ λc a B C s=>?_
 ·have:(d.length+1)*by_<=4294967296*10000:=jE qZ j;omega
 ·refine y c a ?_ (((r _).to).trans C) λb t=>?_
  ·simpa using B
  ·rcases s b t with h|h
   ·exact .inl h
   ·rw[eG]at h;exact gz
def aE0:Tryz.prog.underlying 56=some (.slice 70):=cU
def aC0:Tryz.prog.underlying 58=some (.slice 79):=cU
def Iy:CW pQ (.func (.func 99) #[] #[.pointer (some ⟨b,0,none⟩)]) (S.all.map λa=>[oz a]) (λW=>hC W b #[iG l] T/\∃F,lA W l F S):=by
 refine⟨⟨_,_,_,rfl,?_⟩⟩;rintro y J Js W K ⟨c,F,hq⟩ hQ C V hend hex;have R:=hq;obtain⟨⟨q,m2,A,B,O,N,h3,h4,h5,h6,h7⟩,g⟩:=hq;show Ca pQ _ #[y,.pointer (some ⟨b,0,none⟩)] W K;apply aw2;refine dK.at (λs f=>∃(d:List Ac) (v:Vt_),s=(v,())/\jo f 70 4 v d.length (d.flatMap dH)/\d.Perm S.all/\M0 W f/\∀b,cK v b->W.heap.size<=b) ?_ ?_
 ·simp[go_sem,fy c];apply pU R;simp[go_sem,fy c,iG,fy O];refine sw vh N λw1 H D=>?_;generalize hg:W.heap.size=m at H
  refine Bt (λs f=>∃(d:List Ac) (v:Vt_) (rest:List (Int×Ac)),s=(v,())/\jo f 70 4 v d.length (d.flatMap dH)/\nD iI oz f m q rest/\(d++(rest.filter λp=>decide (p.1≠0)).map (·.2)).Perm S.all/\M0 W f/\∀b,cK v b->m<b)
   (λs W=>rm m q W) ⟨[],_,A,rfl,jo.nil ..,H,?_,D,λb c=>by cases c⟩ ?_
  ·have:=(h4.filter λp=>decide (p.1≠0)).map (·.2);refine this.trans (lI ?_);simp only[Led.accs];rw[cY (by simp),fi.2 ?_,dQ]
   ·exact iP _
   ·intro p hp;obtain⟨a,ha,rfl⟩:=cF.1 hp;have:=(g.acc a ha).1;simp;omega
  rintro⟨v,_⟩ W1 ⟨d,_,rest,⟨⟩,L,r,hp,M,E⟩ KN Q;unfold VO;intro _;refine uv r ?_ ?_
  ·intro h0 u I hh;subst h0;simp[go_sem];exact⟨d,L.mod I eQ,by simpa using hp,M.trans I,λb c=>by grind⟩
  ·intro i p hi u it' w I P;simp[go_sem];apply sg w;simp[go_sem,oz,iI];have hpe:=oY hi;have Z:∀o,M0 W (u.alloc o):=λo=>(M.on I λb c=>.inr (by subst c;omega)).alloc o;have z:∀o,nD iI oz (u.alloc o) m q (rest.eraseIdx i):=λo=>it'.mod ((de.refl (λ_=>False) u).alloc o) id id;have oA:∀o,jo (u.alloc o) 70 4 v d.length (d.flatMap dH):=λo=>(L.mod I λb c e=>by grind).mod ((de.refl (λ_=>False) u).alloc o) eQ
   have hle:∀f,nD iI oz f m q (rest.eraseIdx i)->rm m q f<rm m q W1:=λf h=>by
    rw[h.left,r.left,kP];have:i<rest.length:=(cP.1 hi).1;rw[bZ this];omega
   have Y:d.length<=64:=by
    have O:=hp.length_eq;have N:=g.len;simp only[cD]at O;omega
   by_cases hz:p.1=0
   ·grind
   ·rw[aZ hz];refine Pf (d:=d) (enc:=dH) (x:=p.2) (k:=3) aE0 az8 rfl rfl qZ qZ (oA _) qZ λv' w'' o' t n' =>?_;have j:¬cK v m:=λh=>by grind
    have G:¬cK v q:=λh=>by have:=E q h;have:=N.lt;omega
    refine Q _ _ ⟨d++[p.2],v',_,rfl,o',(z _).mod t G j,?_,(Z _).on t λb c=>.inr (by grind),λb c=>?_⟩ (hle _ ((z _).mod t G j))
    ·grind
    ·rcases n' b c with h|h
     ·exact E b h
     ·rw[eG,P]at h;have:=r.lt.2;omega
 rintro _ W1 ⟨d,v,rfl,L,hp,M,E⟩;unfold WT;intro _
 have Y:d.length<=64:=by
  have O:=hp.length_eq;have N:=g.len;omega
 refine Nh L qZ λw2 d' U p2 s2 X=>?_;obtain rfl:d' =S.all:=Tq g.sa (p2.trans hp) s2;obtain⟨sa,sc,rfl,hsc⟩:=U.isSl;apply ak6;simp[go_sem];have mW2:M0 W w2:=M.on X λb c=>.inr (E b c);have Z:∀o,M0 W (w2.alloc o):=λo=>mW2.alloc o;refine I1 (n:=d.length) (sl:=.slice sa d.length sc) (T:=56) (J (cK (.slice sa d.length sc))) Js (by simp[go_sem]) (U.mod lm eQ) qZ (hQ _ _ (Z _) λb c=>⟨E b c,?_⟩) (C _) ?_ ?_ hex
 ·have:=U.lt c;rw[eG];omega
 ·grind
 ·grind
def LO{b2 f:Nat}{cap:Array Value}{T2:TypeId}{want:Po->Bool}{Wk:World->Prop}(hWk:∀W g,Wk W->M0 W g->Wk g)
  (E:∀p W (K:cG),Wk W->(∀g,M0 W g->K (.bool (want p)) g)->Ca pQ f ⟨tn p::cap.toList⟩ W K):
  CW pQ (.func (.func 152) #[] #[.pointer (some ⟨b,0,none⟩),.pointer (some ⟨b2,0,none⟩)]) ((S.held.filter want).map λa=>[tn a])
   (λW=>hC W b #[iG l] T/\hC W b2 #[.func (.func f) #[] cap] T2/\Wk W/\S.held.length<4294967295/\∃F,lA W l F S):=by
 refine⟨⟨_,_,_,rfl,?_⟩⟩;rintro y J Js W K ⟨c,R,hwk,hlen,F,hq⟩ hQ V hstep hend hex;have hq0:=hq;obtain⟨⟨m1,r,A,B,h1,h2,h3,h4,h5,h6,h7⟩,hok⟩:=hq;show Ca pQ _ #[y,.pointer (some ⟨b,0,none⟩),.pointer (some ⟨b2,0,none⟩)] W K;apply af4;refine dK.at (λs g=>∃(d:List Po) (v:Vt_),s=(v,())/\jo g 79 4 v d.length (d.flatMap ec)/\d.Perm (S.held.filter want)/\M0 W g/\∀b,cK v b->W.heap.size<=b) ?_ ?_
 ·simp[go_sem,fy c];apply pU hq0;simp[go_sem,fy c,iG,fy h1];refine sw DZ h3 λw1 it1 X=>?_;generalize hg:W.heap.size=q at it1
  refine Bt (λs g=>∃(d:List Po) (v:Vt_) (rest:List ((Int×Int)×Po)),s=(v,())/\jo g 79 4 v d.length (d.flatMap ec)/\nD l9 tn g q r rest/\(d++(rest.map (·.2)).filter want).Perm (S.held.filter want)/\M0 W g/\∀b,cK v b->q<b)
   (λs W=>rm q r W) ⟨[],_,B,rfl,jo.nil ..,it1,?_,X,λb c=>by cases c⟩ ?_
  ·have:=(h5.map (·.2)).filter want;refine this.trans (lI ?_);simp only[Led.poss,dQ];congr 1;exact iP _
  rintro⟨v,_⟩ W1 ⟨d,_,rest,⟨⟩,oW,w,t,H,I⟩ KN P;unfold OP;intro _;refine uv w ?_ ?_
  ·intro h0 D L hh;subst h0;simp[go_sem];exact⟨d,oW.mod L eQ,by simpa using t,H.trans L,λb c=>by grind⟩
  ·intro i p hi D it' O L hsz;simp[go_sem];apply sg O;have mA0:∀o,M0 W (D.alloc o):=λo=>(H.on L λb c=>.inr (by subst c;omega)).alloc o
   have hne2:b2≠D.heap.size:=by
    have h1:=cB R;have h2:=H.size;omega
   have Y:D.heap[b2]? =some (.cells #[.func (.func f) #[] cap] T2 (0,0)):=(H.on (F:=λ_=>False) L λb c=>.inr (by subst c;omega)).keep R id;simp[go_sem,tn,l9,fy Y,hne2];have hpe:=oY hi;generalize N:World.alloc _ _=G;have mA:M0 W G:=by grind
   have Q:hC G D.heap.size #[.int .u32 p.2.c,gU p.2.a,gI p.2.q,gI p.2.b] 79:=by subst N;simp[go_sem]
   have m02:M0 D G:=by subst N;exact(de.refl _ D).alloc _
   refine E p.2 G _ (hWk _ _ hwk mA) λw3 m3=>?_;have u:=m3.keep Q id;have C:=m02.trans m3;have M:=mA.trans m3;have j:nD l9 tn w3 q r (rest.eraseIdx i):=it'.mod C id id;have o3:jo w3 79 4 v d.length (d.flatMap ec):=(oW.mod L λb c e=>by grind).mod C eQ
   have U:∀g,nD l9 tn g q r (rest.eraseIdx i)->rm q r g<rm q r W1:=λg h=>by
    rw[h.left,w.left,kP];have:i<rest.length:=(cP.1 hi).1;rw[bZ this];omega
   have hdl:d.length<4294967295:=by
    have h1:=t.length_eq;have h2:=dm want S.held;simp only[cD]at h1;omega
   cases hz:want p.2
   ·simp;refine P _ _ ⟨d,_,_,rfl,o3,j,?_,M,I⟩ (U _ j);refine(List.Perm.append_left d ?_).trans t;have:=(hpe.map (·.2)).filter want;rw[cM,cY (by simp[hz])]at this;exact this.symm
   ·simp[go_sem,fy u];refine Pf (d:=d) (enc:=ec) (x:=p.2) (k:=3) aC0 ag3 rfl rfl qZ qZ o3 qZ λv' w'' o' z n' =>?_;have m:¬cK v q:=λh=>by grind
    have Z:¬cK v r:=λh=>by have:=I r h;have:=h3.lt;omega
    refine P _ _ ⟨d++[p.2],v',_,rfl,o',j.mod z Z m,?_,M.on z λb c=>.inr (by grind),λb c=>?_⟩ (U _ (j.mod z Z m))
    ·grind
    ·rcases n' b c with h|h
     ·exact I b h
     ·have:=j.lt.2;have:=C.size;have:=w.lt.2;omega
 rintro _ W1 ⟨d,v,rfl,oW,hp,H,I⟩;unfold OB;intro _
 have hdl:d.length<4294967295:=by
  have h1:=hp.length_eq;have h2:=dm want S.held;omega
 refine NU oW qZ λG d' o2 p2 s2 m2' =>?_;obtain rfl:d' =S.held.filter want:=Ty (hok.sp.filter want) (p2.trans hp) s2;obtain⟨sa,sc,rfl,hsc⟩:=o2.isSl;apply an2;simp[go_sem];have mW2:M0 W G:=H.on m2' λb c=>.inr (I b c);have mA:∀o,M0 W (G.alloc o):=λo=>mW2.alloc o;refine Ja (n:=d.length) (sl:=.slice sa d.length sc) (T:=58) (J (cK (.slice sa d.length sc))) Js (by simp[go_sem]) (o2.mod lm eQ) qZ (hQ _ _ (mA _) λb c=>⟨I b c,?_⟩) (V _) ?_ ?_ hex
 ·have:=o2.lt c;rw[eG];omega
 ·grind
 ·grind
structure Eg(gv:Vt_)(xs:List (List Value))(w:Wt_):Prop where
 out:∃Ok,CW pQ gv xs Ok/\∀W,M0 w W->Ok W
 fn:∃f cap,gv=.func (.func f) #[] cap
def tU(h:lA w l F S)
  (d:∀gv c,Eg gv (S.all.map λa=>[oz a]) c->M0 w c->K gv c):Ca pQ 43 #[iG l] w K:=by
 apply au4;simp[go_sem,iG];refine d _ _ ⟨⟨_,Iy (l:=l) (b:=w.heap.size) (T:=34),λW m=>⟨m.keep ?_ id,F,h.mod (lm.trans m) eQ⟩⟩,_,_,rfl⟩ lm;rw[gy,bZ rfl];rfl
def yJ(h:lA w l F S)(q:S.held.length<4294967295)
  (j:∀gv i,Eg gv ((S.holders c).map λa=>[tn a]) i->M0 w i->K gv i):Ca pQ 44 #[iG l,gU c] w K:=by
 apply au1;simp[go_sem];apply Vv;simp[go_sem,iG];generalize d:World.alloc _ _=e;have k:M0 w e:=by subst d;exact(lm.alloc _).alloc _
 have g0:hC e w.heap.size #[.int .u32 c] 23:=by subst d;simp[go_sem]
 have g1:hC e (w.heap.size+1) #[iG l] 34:=by subst d;simp[go_sem,iG]
 have o:hC e (w.heap.size+2) #[.func (.func 104) #[] #[.pointer (some ⟨w.heap.size,0,none⟩)]] 185:=by subst d;simp[go_sem]
 refine j _ _ ⟨⟨_,LO (l:=l) (b:=w.heap.size+1) (b2:=w.heap.size+2) (f:=104) (cap:=#[.pointer (some ⟨w.heap.size,0,none⟩)]) (T:=34) (T2:=185) (Wk:=λW=>hC W w.heap.size #[.int .u32 c] 23)
  (want:=λp=>decide (p.c=c)) (λW s r m=>m.keep r id) ?_,λW m=>⟨m.keep g1 id,m.keep o id,m.keep g0 id,q,F,h.mod (k.trans m) eQ⟩⟩,_,_,rfl⟩ k
 intro p W K n j;apply an9;have g:=cB n;simp[go_sem,tn,fy n,Yi g];have:=j _ ((de.refl _ W).alloc (.cells #[.int .u32 p.c,gU p.a,gI p.q,gI p.b] 79));rw[show(p.c==c)=decide (p.c=c) by grind];exact this
def SZ(h:lA w l F S)(q:S.held.length<4294967295)
  (j:∀gv i,Eg gv ((S.ofA c).map λa=>[tn a]) i->M0 w i->K gv i):Ca pQ 132 #[iG l,gU c] w K:=by
 apply ad6;simp[go_sem];apply Vv;simp[go_sem,iG];generalize d:World.alloc _ _=e;have k:M0 w e:=by subst d;exact(lm.alloc _).alloc _
 have g0:hC e w.heap.size #[.int .u32 c] 23:=by subst d;simp[go_sem]
 have g1:hC e (w.heap.size+1) #[iG l] 34:=by subst d;simp[go_sem,iG]
 have o:hC e (w.heap.size+2) #[.func (.func 165) #[] #[.pointer (some ⟨w.heap.size,0,none⟩)]] 185:=by subst d;simp[go_sem]
 refine j _ _ ⟨⟨_,LO (l:=l) (b:=w.heap.size+1) (b2:=w.heap.size+2) (f:=165) (cap:=#[.pointer (some ⟨w.heap.size,0,none⟩)]) (T:=34) (T2:=185) (Wk:=λW=>hC W w.heap.size #[.int .u32 c] 23)
  (want:=λp=>decide (p.a=c)) (λW s r m=>m.keep r id) ?_,λW m=>⟨m.keep g1 id,m.keep o id,m.keep g0 id,q,F,h.mod (k.trans m) eQ⟩⟩,_,_,rfl⟩ k
 intro p W K n j;apply ak0;have g:=cB n;simp[go_sem,tn,fy n,Yi g];have:=j _ ((de.refl _ W).alloc (.cells #[.int .u32 p.c,gU p.a,gI p.q,gI p.b] 79));rw[show(p.a==c)=decide (p.a=c) by grind];exact this
def KT{d:Nat}{ds:List Nat}{K:World->Prop}:lj (d::ds) w K↔hp w d=some (.deferred (some []))/\lj ds (w.putObj d (.deferred none)) K:=fd
def Hu{K:World->Prop}:lj [] w K↔K w:=fd
def pE(x:Int×Int):List Value:=[.int .u32 x.1,gI x.2]
def Po.won(price:Int)(p:Po):Int×Int:=(p.a,p.q*price - p.b)
def vaE:lN pQ 256 2 16=true:=cU
def aD5:Tryz.prog.underlying 252=some (.slice 256):=cU
def GU{l:List Po}{i:Nat}{p:Po}(h:l[i]? =some p):S.marked (l.take (i+1)) price cl=(S.marked (l.take i) price cl).putP (p.mark price cl):=by
 unfold Led.marked;rw[kL,h];simp
def Cs{l:List Po}:∀{S:Led},(S.marked l price cl).all=S.all/\(S.marked l price cl).fund=S.fund:=by
 induction l with
 |nil=>intro S;exact sI
 |cons p l a=>intro S;exact a (S:=S.putP (p.mark price cl))
def OV(p:Po)(price:Int)(cl:Bool):(p.mark price cl).key=p.key:=by
 unfold Po.mark Po.key;cases cl<;>rfl
def KU{S' :Led}(h:S.Ok)(e:S'.Ok)(i:S'.all=S.all){p:Po}(hp:p∈S.held){price:Int}(a:1<=price/\price<=MP)(cl:Bool):(S'.putP (p.mark price cl)).Ok:=by
 obtain⟨g,d,j,c,b,k,o,f⟩:=h.pos p hp;have l:=mul_bd (x:=p.q) (y:=price) (m:=MP) (n:=MP) ⟨c,b⟩ ⟨qZ,a.2⟩;unfold Po.mark;cases cl with
 |true=>exact e.putP ⟨g,d⟩ ⟨by simp[MP],by simp[MP]⟩ ⟨by simp[MF],by simp[MF]⟩ (by rw[i];exact f)
 |false=>exact e.putP ⟨g,d⟩ ⟨c,b⟩ ⟨by simp only[MP,MF,dE,eW]at*;omega,by simp only[MP,MF,dE,eW]at*;omega⟩ (by rw[i];exact f)
def Nv(h:S.Ok){price:Int}(b:1<=price/\price<=MP)(cl:Bool):∀(l:List Po) (S' :Led),(∀p∈l,p∈S.held)->S'.Ok->S'.all=S.all->(S'.marked l price cl).Ok:=by
 intro l;induction l with
 |nil=>intro S' _ a _;exact a
 |cons p l f=>
  intro S' c a d;exact f (S'.putP (p.mark price cl)) (λx e=>c x (cu _ e)) (KU h a d (c p cw) b cl) d
def Ux(h:lA w l F S)(hl:S.held.length<4294967295)
  (hK:∀w' v,lA w' l F (S.mark c price cl).2.2->jo w' 256 2 v (S.mark c price cl).2.1.length ((S.mark c price cl).2.1.flatMap pE)->de F w w' ->(∀b,cK v b->w.heap.size<=b)->K (.tuple #[v,gI (S.mark c price cl).1]) w'):
  Ca pQ 163 #[iG l,gU c,gI price,.bool cl] w K:=by
 have h0:=h;obtain⟨⟨m1,m2,A,B,h1,h2,h3,h4,h5,h6,h7⟩,hok⟩:=h;apply ZD;simp[go_sem,iG];generalize hn0:w.heap.size=u;generalize X:World.alloc _ _=w1;have mw1:M0 w w1:=by subst X;exact(lm.alloc _).alloc _
 have g0:hC w1 u #[iG l] 34:=by subst X hn0;simp[go_sem,iG]
 have g2:hC w1 (u+1) #[.int .i64 price] 2:=by subst X hn0;simp[go_sem]
 have g4:hC w1 (u+2) #[.bool cl] 4:=by subst X hn0;simp[go_sem]
 have q1:=h0.mod mw1 eQ;apply pU q1;simp[go_sem];unfold Led.mark at hK;have hMp:amongB price 1 10000000=amongB price 1 MP:=rfl;refine dK.at (λs W=>s=(.bool (decide (c=0\/amongB price 1 MP=false)),())/\W=w1) ?_ ?_
 ·by_cases hc0:c=0
  ·simp[hc0]
  ·simp[hc0,go_sem,fy g2];apply uA;rw[hMp];simp[go_sem]
 rintro _ W ⟨rfl,rfl⟩;unfold Se;intro _;by_cases hc:c=0\/amongB price 1 MP=false
 ·rw[bZ hc]at hK;simp only[db hc,cy,fh];exact hK _ _ q1 (jo.nil ..) (mw1.to) λb f=>by cases f
 ·rw[aZ hc]at hK;simp only[ej hc,cy,dE,eW];have hpr:1<=price/\price<=MP:=amongB_iff.1 (by cases h:amongB price 1 MP with|true=>rfl|false=>exact absurd (.inr h) hc);have hne0:u≠W.heap.size:=by have:=cB g0;omega
  simp[go_sem,fy g0,hne0];generalize hvo:W.heap.size=C;generalize hw2:World.alloc _ _=w2;have P:M0 W w2:=by subst hw2;exact(de.refl _ W).alloc _
  have gv:hC w2 C #[.slice none 0 0] 252:=by subst hw2 hvo;simp[go_sem]
  refine yJ (q1.mod P eQ) hl λgvv D tl m3=>?_;have m13:=(mw1.trans P).trans m3;have q3:=h0.mod m13 eQ;have hvo3:C<D.heap.size:=by have:=cB gv;have:=m3.size;omega
  have hn0v:u+2<C:=by have:=cB g4;omega
  obtain⟨Ok,hit,hOk⟩:=tl.out;have hH:∀p∈S.holders c,p∈S.held:=λp hp=>(cO.1 hp).1;generalize hHd:S.holders c=H at*
  let J:(Nat->Prop)->Nat->World->Prop:=λQ i W=>∃v,lA W l F (S.marked (H.take i) price cl)/\hC W C #[v] 252/\jo W 256 2 v i (((H.take i).map (Po.won price)).flatMap pE)/\
   (∀b,cK v b->D.heap.size+1<b)/\hC W u #[iG l] 34/\hC W (u+1) #[.int .i64 price] 2/\hC W (u+2) #[.bool cl] 4/\
   hp W D.heap.size=some (.deferred (some []))/\de F w W/\∀b,Q b->D.heap.size+1<b/\b<W.heap.size/\¬cK v b
  have z:∀b,F b->b<u:=λb f=>by have:=h0.lt f;omega
  have e3:∀o,M0 D ((D.alloc (.deferred (some []))).alloc (.loop o)):=λo=>lm.alloc _;refine Is hit (by simp) J (λ_ _=>False) (λo=>hOk _ (e3 o)) ?_ ?_ ?_ ?_ (λ_ _ _ h=>h.elim)
  ·intro o Q g mo hQ;have R:=(e3 o).trans mo;have m11:=m13.trans R;have hd:hp ((D.alloc (.deferred (some []))).alloc (.loop o)) D.heap.size=some (.deferred (some [])):=by simp[go_sem]
   refine⟨.slice none 0 0,h0.mod m11 eQ,(m3.trans R).keep gv id,(show jo g _ 2 (.slice none 0 0) 0 []from jo.nil ..),λb f=>(by cases f),((P.trans m3).trans R).keep g0 id,((P.trans m3).trans R).keep g2 id,((P.trans m3).trans R).keep g4 id,mo.keep hd id,m11.to,λb f=>⟨(hQ b f).1,(hQ b f).2,λh=>by cases h⟩⟩
  ·rintro Q i g W2 ⟨v,j1,j2,j3,j4,j5,j6,j7,j8,j9,E⟩ M;refine⟨v,j1.mod M λb f e=>by have:=z b f;omega,M.keep j2 qZ,j3.mod M λb f e=>by have:=j4 b f;omega,j4,M.keep j5 qZ,M.keep j6 qZ,M.keep j7 qZ,M.keep j8 qZ,j9.on M λb f=>.inr (by have:=m13.size;omega),λb f=>⟨(E b f).1,ep (E b f).2.1 M.size,(E b f).2.2⟩⟩
  ·rintro Q i x g r hx ⟨v,j1,j2,j3,j4,j5,j6,j7,j8,j9,E⟩ j Y KN KJ hKN hKJ
   obtain⟨p,L,rfl⟩:∃p,H[i]? =some p/\x=[tn p]:=by
    simp only[dO]at hx;cases hh:H[i]? with
    |none=>rw[hh]at hx;cases hx
    |some p=>rw[hh]at hx;exact⟨p,rfl,(dB hx).symm⟩
   have hpm:=hH p (dL L);obtain⟨p1,p2,p3,p4,p5,p6,p7,p8⟩:=hok.pos p hpm;have f:=mul_bd (x:=p.q) (y:=price) (m:=MP) (n:=MP) ⟨p4,p5⟩ ⟨qZ,hpr.2⟩;simp only[MP,MF]at f p4 p5 p6 p7;have wr1:IntKind.i64.wrap (p.q*price)=p.q*price:=by rw[eF];omega
   have wr2:IntKind.i64.wrap (p.q*price - p.b)=p.q*price - p.b:=by rw[eF];omega
   obtain⟨G,hrc⟩:=dW (D.heap.size+1);rw[<-hrc]at j hKN E|-;simp only[<-hrc]at j4;unfold QP;simp[go_sem,tn];refine ux (r:=r) ?_ Y ?_
   ·rw[gy,aZ (by have:=cB j;omega)];exact j
   have T:C≠g.heap.size:=by have:=cB j2;omega
   have hne2:C≠G:=qZ;have hne3:u+1≠G:=qZ;have hne4:u+1≠g.heap.size:=by have:=cB j6;omega
   have O:g.heap.size≠G:=by have:=cB j;omega
   simp[go_sem,fy j2,fy j6,T,hne2,hne3,hne4,O,wr1,wr2];generalize U:World.putObj _ _ _=w4;have m4:de (λb=>b=G) g w4:=by subst U;exact((de.refl (λb=>b=G) g).alloc _).putObj (b:=G) (.inl rfl) _
   have hloc:hC w4 g.heap.size #[.int .u32 p.c,gU p.a,gI p.q,gI p.b] 79:=by subst U;simp[go_sem,O]
   have hrec4:hp w4 G=some (.loop {r with state:=.busy}):=by subst U;simp[go_sem,fy j,kG O]
   have hsz4:w4.heap.size=g.heap.size+1:=by subst U;simp[go_sem]
   have hHl:(H.take i).length=i:=by
    rw[cZ];have:=(cP.1 L).1;omega
   have hHle:H.length<=S.held.length:=by rw[<-hHd];exact dm ..
   have j3' :jo w4 256 2 v ((H.take i).map (Po.won price)).length (((H.take i).map (Po.won price)).flatMap pE):=by
    rw[cz,hHl];exact j3.mod m4 λb f e=>by have:=j4 b f;omega
   refine Pf (d:=(H.take i).map (Po.won price)) (enc:=pE) (x:=p.won price) (k:=1) aD5 vaE rfl rfl qZ qZ j3' (by rw[cz,hHl];have:=(cP.1 L).1;omega) λv' w5 o5 m5 n5=>?_;obtain⟨va,vc,hv',-⟩:=o5.isSl
   have htk:(H.take i).map (Po.won price)++[p.won price]=(H.take (i+1)).map (Po.won price):=by
    rw[kL,L];simp
   have hHl1:(H.take (i+1)).length=i+1:=by
    rw[cZ];have:=(cP.1 L).1;omega
   rw[htk,cz,hHl1]at o5;rw[htk,cz,hHl1]at hv';have hvl:∀b,cK v b->b<g.heap.size:=λb f=>j3.lt f;have V:∀b,b<=G->¬cK v b:=λb f h=>by have:=j4 b h;omega
   have Z:de (λb=>b=G\/cK v b) g w5:=(m4.mono λ_ _ h=>.inl h).on m5 λb f=>.inl (.inr f);have k2:hC w5 C #[v] 252:=Z.keep j2 (λh=>by rcases h with h|h;omega;exact V _ qZ h);have k6:hC w5 (u+1) #[.int .i64 price] 2:=Z.keep j6 (λh=>by rcases h with h|h;omega;exact V _ qZ h);have kloc:hC w5 g.heap.size #[.int .u32 p.c,gU p.a,gI p.q,gI p.b] 79:=m5.keep hloc (λh=>by have:=hvl _ h;omega);have N:g.heap.size≠C:=qZ;have hne7:u+1≠C:=qZ;have k7' :hC w5 (u+2) #[.bool cl] 4:=Z.keep j7 (λh=>by rcases h with h|h;omega;exact V _ qZ h);have hne8:u+2≠C:=qZ;have hne9:u+2≠g.heap.size:=by have:=cB j7;omega
   subst hv';simp[go_sem,fy k2,fy kloc,fy k6,fy k7',N,hne7,hne8,hne9,wr1];generalize hw6:(w5.setCell ⟨C,0,none⟩ (.slice va (i+1) vc)).setCell ⟨g.heap.size,3,none⟩ (gI (p.q*price))=I;have m6:de (λb=>b=C\/b=g.heap.size) w5 I:=by subst hw6;exact((de.refl (λb=>b=C\/b=g.heap.size) w5).setCell (b:=C) (.inl (.inl rfl)) _ _).setCell (b:=g.heap.size) (.inl (.inr rfl)) _ _
   have l2:hC I C #[.slice va (i+1) vc] 252:=by subst hw6;simp[go_sem,k2,kG N]
   have lloc:hC I g.heap.size #[.int .u32 p.c,gU p.a,gI p.q,gI (p.q*price)] 79:=by subst hw6;simp[go_sem,kloc,N]
   have hvo5:∀b,cK (.slice va (i+1) vc) b->G<b/\b≠g.heap.size:=λb f=>by
    rcases n5 b f with h|h
    ·grind
    ·grind
   have t:de (λb=>b=G\/cK v b\/b=C) g I:=(Z.mono λ_ _ h=>h.elim .inl λh=>.inr (.inl h)).on m6 λb f=>by
    rcases f with h|h
    ·grind
    ·exact gz
   have q:∀b,b<G->b≠C->¬(b=G\/cK v b\/b=C):=λb h1 h2 h=>by
    rcases h with h|h|h
    ·omega
    ·grind
    ·exact h2 h
   have k7:hC I (u+2) #[.bool cl] 4:=t.keep j7 (q _ qZ qZ);have k5:hC I u #[iG l] 34:=t.keep j5 (q _ qZ qZ);have k6' :hC I (u+1) #[.int .i64 price] 2:=t.keep j6 (q _ qZ qZ);have k8:hp I D.heap.size=some (.deferred (some [])):=t.keep j8 (q _ qZ qZ)
   have krec:hp I G=some (.loop {r with state:=.busy}):=by
    apply m6.keep (m5.keep hrec4 (V _ (cJ _)));rintro(h|h)
    ·omega
    ·omega
   have q6:lA I l F (S.marked (H.take i) price cl):=j1.mod t λb f h=>q b (by have:=z b f;omega) (by have:=z b f;omega) h;let p' :=p.mark price cl;refine dK.at (λ_ W=>∃m:de (λb=>b=g.heap.size) I W,hC W g.heap.size (ec p').toArray 79) ?_ ?_
   ·cases cl with
    |true=>
     simp[go_sem,fy lloc];exact⟨((de.refl _ I).setCell (by simp) _ _).setCell (by simp) _ _,by simp[p',Po.mark,ec]⟩
    |false=>
     simp[go_sem];exact⟨lX,by simp[lloc,p',Po.mark,ec]⟩
   rintro _ W7 ⟨m7,lloc7⟩;unfold P5;intro _;have kk:∀{b o},hp I b=some o->b<g.heap.size->hp W7 b=some o:=λh f=>m7.keep h qZ;have hb5:=kk k5 (by have:=cB j5;omega);simp[go_sem,fy hb5,fy lloc7,ec];have q7:=q6.mod m7 λb f e=>by have:=z b f;have:=cB j;omega
   have hall:=(Cs (S:=S) (l:=H.take i) (price:=price) (cl:=cl)).1;have hok' :((S.marked (H.take i) price cl).putP p').Ok:=KU hok q7.ok hall hpm hpr cl;refine Kh (p:=p') q7 hok' λW8 q8 m8=>?_;have kF:∀{b o},hp W7 b=some o->u<=b->hp W8 b=some o:=λh f=>m8.keep h (λhf=>by have:=z _ hf;omega);refine hKN W8 ⟨.slice va (i+1) vc,?_,kF (kk l2 (by have:=cB j2;omega)) qZ,?_,λb f=>(by have:=(hvo5 b f).1;omega),kF hb5 (cJ _),kF (kk k6' (by have:=cB j6;omega)) qZ,kF (kk k7 (by have:=cB j7;omega)) qZ,kF (kk k8 (by have:=cB j;omega)) qZ,?_,?_⟩ (kF (kk krec (cB j)) qZ) ?_
   ·rw[GU L];exact q8
   ·refine((o5.mod m6 λb f h=>?_).mod m7 λb f h=>(hvo5 b f).2 h).mod m8 λb f h=>?_
    ·grind
    ·grind
   ·refine((j9.on t λb f=>?_).on m7 λb f=>?_).trans m8
    ·rcases f with h|h|h
     ·grind
     ·grind
     ·exact gz
    ·grind
   ·intro b f;obtain⟨q1,q2,q3⟩:=E b f;have hsz8:g.heap.size<=W8.heap.size:=by have:=t.size;have:=m7.size;have:=m8.size;omega
    refine⟨qZ,qZ,λh=>?_⟩;rcases n5 b h with h|h
    ·exact q3 h
    ·rw[hsz4]at h;omega
   ·intro b f;obtain⟨q1,q2,q3⟩:=E b f;have e1:=t.blk b q2 (λh=>by rcases h with h|h|h;omega;exact q3 h;omega);have e2:=m7.blk b (by have:=t.size;omega) (by show¬b=_;omega);have e3:=m8.blk b (by have:=t.size;have:=m7.size;omega) (λh=>by have:=z b h;omega);rw[e3,e2,e1]
  ·rintro Q g o ⟨v,j1,j2,j3,j4,j5,j6,j7,j8,j9,E⟩;have hHl:((H.map λa=>[tn a]):List (List Value)).length=H.length:=by simp
   rw[hHl,cT (cJ _)]at j1 j3;have T:C≠D.heap.size+1:=qZ;have hne2:D.heap.size≠D.heap.size+1:=qZ;unfold Ps;obtain⟨va,vc,hv,-⟩:=j3.isSl;simp[go_sem,iJ,fy j2,T];simp[go_sem,KT,Hu,j8];have M:de (λb=>b=D.heap.size+1\/b=D.heap.size) g ((g.putObj (D.heap.size+1) (.loop o)).putObj D.heap.size (.deferred none)):=((de.refl _ g).putObj (.inl (.inl rfl)) _).putObj (.inl (.inr rfl)) _;refine hK _ v (j1.mod M λb f h=>?_) ?_ (j9.on M λb f=>.inr ?_) λb f=>?_
   ·grind
   ·have:=j3.mod M λb f h=>by have:=j4 b f;omega
    show jo _ _ 2 v (H.map (Po.won price)).length ((H.map (Po.won price)).flatMap pE);simpa using this
   ·have:=m13.size;omega
   ·grind
end Go.Proofs
namespace Go.Proofs
open Go Go.Vc
attribute [local congr] cR
variable {buy:Bool}{l:List Od}{s:Nat}
def Nk{W:Wt_}{K:World->Prop}:∀{ds:List Nat},ds.Nodup->(∀d∈ds,hp W d=some (.deferred (some [])))->(∀a,de (λb=>b∈ds) W a->K a)->lj ds W K:=by
 intro ds;induction ds generalizing W with
 |nil=>intro _ _ c;exact Hu.2 (c W lX)
 |cons d ds l=>
  intro k f c;obtain⟨j,h⟩:=dA.1 k;refine KT.2 ⟨f d cw,l h (λx g=>?_) λa m=>c a ?_⟩
  ·rw[MU,aZ (λe:x=d=>j (e▸g))];exact f x (cu _ g)
  ·exact((de.refl (λb=>b∈d::ds) W).putObj (b:=d) (.inl cw) _).trans (m.mono λb _ i=>cu _ i)
def TX{b:Nat}{T:TypeId}:CW pQ (.func (.func 106) #[] #[.pointer (some ⟨b,0,none⟩)]) (l.map λo=>[oG o]) (λW=>hC W b #[fQ s] T/\∃F,lp W s F buy l):=by
 refine⟨⟨_,_,_,rfl,?_⟩⟩;rintro y J Js W K ⟨e,F,D⟩ P j c g x;show Ca pQ _ #[y,.pointer (some ⟨b,0,none⟩)] W K;apply aq4;refine qS1 e ?_;apply sR D;refine qSf0 ?_;obtain⟨⟨sl,G,R,c3,c4⟩,c5,c6⟩:=id D;refine qS1 e ?_;simp only[fQ,dr];refine qS1 G ?_;refine qS1 G ?_;refine ww (l:=l) R.rd qZ λk L u N Y=>?_;obtain⟨sa,sc,w,-⟩:=u.isSl;apply jm (gI (l.length:Int)) L (by rw[w];simp[go_sem]);have v:J (cK k) 0 L:=P _ _ N λb e=>⟨Y b e,u.lt e⟩
 refine eS (λst d=>∃i:Nat,i<=l.length/\st=(gI i,())/\J (cK k) i d/\qR d k l)
  (λst _=>match st.1 with| .int _ i=>l.length - i.toNat|_=>0) ⟨0,qZ,rfl,v,u⟩ ?_
 rintro⟨_,_⟩ d ⟨i,hi,⟨⟩,H,E⟩ Z p;unfold OC;intro _;by_cases f:i<l.length
 ·have h:(i:Int)<(l.length:Int):=qZ;refine qSt1 h ?_;obtain⟨b',B,Q,m,z⟩:=E.load f;refine cI (m .i64) (cI z ?_);obtain⟨w3,U,C,O⟩:=kD d;apply cI U;obtain⟨q,t⟩:=dW d.heap.size;rw[<-t]at C|-;obtain⟨A,V,S,X⟩:=jK (o' :=l[i]) C;apply ir V;have M:M0 d A:=O.on X λb e=>gz;apply cI (lM (o:=l[i]) (At.all S));have n:=E.mod M eQ;refine c (cK k) i [oG l[i]] A (by simp[f]) (j _ _ _ _ H M) _ (λI a r=>?_) λI a=>?_
  ·refine qSf0 ?_;apply cx (gI ((i+1:Nat):Int)) I (by simp[go_sem];rw[wI_]);exact p _ _ ⟨i+1,qZ,rfl,a,n.keep r⟩ (by show l.length - (((i+1:Nat):Int)).toNat<l.length - ((i:Int)).toNat;omega)
  ·refine qSt0 ?_;exact x _ a
 ·obtain rfl:i=l.length:=qZ;refine qSf0 ?_;exact g _ d (by simpa using H)
def K7{w:Wt_}{K:cG}{F:NP_}(h:lp w s F buy l)
  (e:∀gv a,Eg gv (l.map λo=>[oG o]) a->M0 w a->K gv a):Ca pQ 58 #[fQ s] w K:=by
 apply aA5;have c:M0 w (w.alloc (.cells #[fQ s] 142)):=lm;apply cx (pt w.heap.size 0) (w.alloc (.cells #[fQ s] 142)) (by simp[go_sem,fQ]);have d:hC (w.alloc (.cells #[fQ s] 142)) w.heap.size #[fQ s] 142:=by simp[go_sem]
 exact e _ _ ⟨⟨_,TX (s:=s) (b:=w.heap.size) (buy:=buy) (l:=l) (T:=142),λW m=>⟨m.hpk d id,F,h.mod (c.trans m) eQ⟩⟩,_,_,rfl⟩ c
def vu{l:List Int}{B:Int}(h:∀x∈l,0<=x/\x<=B):0<=l.sum/\l.sum<=l.length*B:=by
 induction l with
 |nil=>simp
 |cons x l a=>
  have d:=h x (by simp);have c:=a λy b=>h y (by simp[b]);rw[di,dc];have e:((l.length+1:Nat):Int)*B=l.length*B+B:=by rw[iT,Int.add_mul];omega
  rw[e];omega
def xF(l:List Od)(acct:Int):Int:=((l.filter λo=>decide (o.acct≠acct)).map (·.left)).sum
def EZ(l:List Od)(o:Od)(acct:Int):xF (l++[o]) acct=xF l acct+(if o.acct≠acct then o.left else 0):=by
 unfold xF;rw[dJ,dy,g9];congr 1;by_cases h:o.acct=acct<;>simp[h]
def T7{acct:Int}(h:∀o∈l,1<=o.left/\o.left<=1000000):0<=xF l acct/\xF l acct<=l.length*1000000:=by
 have b:=vu (l:=(l.filter λo=>decide (o.acct≠acct)).map (·.left)) (B:=1000000) λx c=>by
  obtain⟨o,a,rfl⟩:=cF.1 c;have:=h o (cO.1 a).1;omega
 rw[cz]at b;have d:=dm (λo:Od=>decide (o.acct≠acct)) l;unfold xF;omega
def Od.left_bd{o:Od}(h:o.may=true):1<=o.left/\o.left<=1000000:=by
 unfold Od.may at h;simp only[cL]at h;exact dR h.2
def Tg{p:Od->Bool}{j:Nat}(b:j<l.length)(h:∀o∈l.take j,p o=true)(a:p l[j]=false):l.takeWhile p=l.take j:=by
 induction l generalizing j with
 |nil=>simp at b
 |cons x l d=>
  cases j with
  |zero=>
   simp only[iN]at a;rw[oO,a];simp
  |succ j=>
   have e:=h x (by simp);rw[oO,e];simp only[fh,lq];rw[d (by simpa using b) (λo c=>h o (by simp[c])) (by simpa using a)]
def Xf{p:Od->Bool}(h:∀o∈l,p o=true):l.takeWhile p=l:=by
 induction l with
 |nil=>rfl
 |cons x l b=>
  rw[oO,h x (by simp)];simp only[fh];rw[b λo a=>h o (by simp[a])]
def No{w:Wt_}{K:cG}{F:NP_}{price acct:Int}(h:lp w s F buy l)
  (hK:∀w',M0 w w' ->K (gI (lR buy l price acct)) w'):Ca pQ 178 #[fQ s,gI price,gU acct] w K:=by
 apply ag8;obtain⟨a,n⟩:=dW w.heap.size
 have hlay:∃B,((w.alloc (.cells #[fQ s] 142)).alloc (.cells #[.int .i64 price] 2) |>.alloc (.cells #[.int .u32 acct] 23) |>.alloc (.cells #[.int .i64 0] 2))=B/\B.heap.size=a+4/\M0 w B/\
   hC B a #[fQ s] 142/\hC B (a+1) #[.int .i64 price] 2/\hC B (a+2) #[.int .u32 acct] 23/\hC B (a+3) #[.int .i64 0] 2:=by
  refine⟨_,rfl,by simp[go_sem,n],((lm.alloc _).alloc _).alloc _,?_,?_,?_,?_⟩<;>simp[go_sem,n]
 obtain⟨B,Y,hsz4,m4,b0,b1,b2,b3⟩:=hlay;apply cx (pt a 0) (w.alloc (.cells #[fQ s] 142)) (by simp[go_sem,fQ,n]);apply cx (pt (a+1) 0) ((w.alloc (.cells #[fQ s] 142)).alloc (.cells #[.int .i64 price] 2)) (by simp[go_sem,n]);apply cx (pt (a+2) 0) (((w.alloc (.cells #[fQ s] 142)).alloc (.cells #[.int .i64 price] 2)).alloc (.cells #[.int .u32 acct] 23)) (by simp[go_sem,n]);apply cx (pt (a+3) 0) B (by rw[<-Y];simp[go_sem,n]);clear Y;apply qSv1 (fQ s) b0;refine K7 (h.mod m4 eQ) λgv k ht T=>?_;obtain⟨⟨Ok,hit,hOk⟩,f,cap,rfl⟩:=ht;have M5:=m4.trans T;have q5:=h.mod M5 eQ;have d0:=T.hpk b0 id;have d1:=T.hpk b1 id;have d2:=T.hpk b2 id;have d3:=T.hpk b3 id;have hs5:=T.size;have N:∀b,F b->b<a:=λb g=>by rw[n];exact h.lt g
 let p:Od->Bool:=λo=> !sx buy price o.price
 let J:(Nat->Prop)->Nat->World->Prop:=λQ j W=>lp W s F buy l/\hC W a #[fQ s] 142/\hC W (a+1) #[.int .i64 price] 2/\hC W (a+2) #[.int .u32 acct] 23/\
  hC W (a+3) #[.int .i64 (xF (l.take j) acct)] 2/\(∀o∈l.take j,p o=true)/\hp W k.heap.size=some (.deferred (some []))/\de (λb=>b=a+3) k W/\∀b,Q b->k.heap.size+1<b/\b<W.heap.size
 let Jx:Code->World->Prop:=λc W=>c=.exit 0/\hC W (a+3) #[.int .i64 (lR buy l price acct)] 2/\hp W k.heap.size=some (.deferred (some []))/\de (λb=>b=a+3) k W;have e5:∀o,M0 k ((k.alloc (.deferred (some []))).alloc (.loop o)):=λo=>lm.alloc _
 have fin:∀W o,hC W (a+3) #[.int .i64 (lR buy l price acct)] 2->hp W k.heap.size=some (.deferred (some []))->de (λb=>b=a+3) k W->
   rv pQ (iL 2 (pt (a+3) 0)) (W.putObj (k.heap.size+1) (.loop o)) λv52 w53=>
    ru pQ (iS 2 (pt (a+3) 0) v52) w53 λw54=>
    lj ([k.heap.size]++[]) w54 λw55=>
    uc pQ (iL 2 (pt (a+3) 0)) w55 λv56=>K v56 w55:=by
  intro W o k1 k2 k3;have mp:de (λb=>b=k.heap.size+1) W (W.putObj (k.heap.size+1) (.loop o)):=(de.refl (λb=>b=k.heap.size+1) W).putObj (.inl rfl) _;have C:=mp.hpk k1 qZ;have k2' :=mp.hpk k2 qZ;generalize W.putObj (k.heap.size+1) (.loop o)=X at mp C k2' |-;apply qSv1 (gI (lR buy l price acct)) C;apply pH (X.setCell ⟨a+3,0,none⟩ (gI (lR buy l price acct))) (by simp[go_sem,C]);have ms:de (λb=>b=a+3) X (X.setCell ⟨a+3,0,none⟩ (gI (lR buy l price acct))):=(de.refl (λb=>b=a+3) X).sc;have k3' :hC (X.setCell ⟨a+3,0,none⟩ (gI (lR buy l price acct))) (a+3) #[.int .i64 (lR buy l price acct)] 2:=by simp[go_sem,C]
  have k4' :=ms.hpk k2' qZ;generalize X.setCell ⟨a+3,0,none⟩ (gI (lR buy l price acct))=W2 at ms k3' k4' |-;refine Nk (by simp) (λd hd=>by rw[eK.1 hd];exact k4') λW3 m3=>?_;have k5:=m3.hpk k3' (by simp;omega);apply qWv1 (gI (lR buy l price acct)) k5;refine hK _ ((((M5.on k3 λb g=>gz).on mp λb g=>gz).on ms λb g=>gz).on m3 λb g=>.inr ?_);have hb' :b=k.heap.size:=by simpa using g
  omega
 refine Is (xs:=l.map λo=>[oG o]) hit (by simp) J Jx (λo=>hOk _ (e5 o)) ?_ ?_ ?_ ?_ ?_
 ·intro o Q W mo hQ;have V:=(e5 o).trans mo;have hd:hp ((k.alloc (.deferred (some []))).alloc (.loop o)) k.heap.size=some (.deferred (some [])):=by simp[go_sem]
  exact⟨q5.mod V eQ,V.hpk d0 id,V.hpk d1 id,V.hpk d2 id,V.hpk d3 id,by simp,mo.hpk hd id,V.to,hQ⟩
 ·rintro Q j W W' ⟨P,j1,j2,j3,R,H,Z,L,t⟩ E;exact⟨P.mod E λb g e=>by have:=N b g;omega,E.hpk j1 qZ,E.hpk j2 qZ,E.hpk j3 qZ,E.hpk R qZ,H,E.hpk Z qZ,L.on E λb g=>gz,λb g=>⟨(t b g).1,ep (t b g).2 E.size⟩⟩
 ·rintro Q j x W r hx ⟨P,j1,j2,j3,R,H,Z,L,t⟩ v A KN KJ M hKJ
  obtain⟨U,hxo⟩:∃U:j<l.length,x=[oG l[j]]:=by
   rw[dO]at hx;cases hh:l[j]? with
   |none=>rw[hh]at hx;cases hx
   |some o=>
    obtain⟨U,he⟩:=cP.1 hh;rw[hh]at hx;exact⟨U,by rw[he];exact(dB hx).symm⟩
  subst hxo;obtain⟨D,hrc⟩:=dW (k.heap.size+1);rw[<-hrc]at v M hKJ t|-;have hrl:=cB v;unfold Re;obtain⟨w6,e6,b6,m6⟩:=kD W;apply cI e6;obtain⟨q,hq0⟩:=dW W.heap.size;rw[<-hq0]at b6|-;obtain⟨I,e7,b7,m7⟩:=jK (o' :=l[j]) b6;show ru pQ (iS pz (pt q 0) (oG l[j])) w6 _;apply ir e7;have M7:M0 W I:=m6.on m7 λb g=>gz;have y:I.heap[D]? =some (.loop r):=M7.keep v id;apply ux (r:=r) y A;have m8:de (λb=>b=D) I (I.putObj D (.loop {r with state:=.busy})):=(de.refl (λb=>b=D) I).putObj (.inl rfl) _;have i:(I.putObj D (.loop {r with state:=.busy})).heap[D]? =some (.loop {r with state:=.busy}):=by rw[fY,bZ rfl,y];rfl
  generalize I.putObj D (.loop {r with state:=.busy})=G at m8 i|-;have u:de (λb=>b=D) W G:=(M7.to).trans m8;have g0:=u.hpk j1 qZ;have g1:=u.hpk j2 qZ;have g2:=u.hpk j3 qZ;have g3:=u.hpk R qZ;have gd:=u.hpk Z qZ;have zgq:=m8.hpk b7 qZ;have gS:=P.mod u λb g e=>by have:=N b g;omega
  have m:=zgq;unfold fL at m;apply qSv1 (fQ s) g0;apply cI (by simp[-Int.natCast_add,go_sem,g1]<;>first|exact sI|exact rfl);apply cI (by simp[-Int.natCast_add,go_sem,m]<;>first|exact sI|exact rfl);apply cI (by simp[-Int.natCast_add,go_sem,m]<;>first|exact sI|exact rfl);apply DE gS;cases hbt:sx buy price l[j].price with
  |true=>
   rw[kx];refine hKJ _ _ ⟨rfl,?_,gd,L.on u λb g=>gz⟩ i
   have:lR buy l price acct=xF (l.take j) acct:=by
    unfold lR xF;rw[Tg (p:=p) U H (by simp[p,hbt])]
   rw[this];exact g3
  |false=>
   rw[gP]
   have O:l.take (j+1)=l.take j++[l[j]]:=by
    rw[kL,cE U];rfl
   have hp1:∀o∈l.take (j+1),p o=true:=by
    rw[O];intro o S;rcases dg.1 S with S|S
    ·exact H o S
    ·grind
   apply cI (by simp[-Int.natCast_add,go_sem,m]<;>first|exact sI|exact rfl);apply cI (by simp[-Int.natCast_add,go_sem,m]<;>first|exact sI|exact rfl);apply cI (by simp[-Int.natCast_add,go_sem,g2]<;>first|exact sI|exact rfl);by_cases ha:l[j].acct=acct
   ·apply qSv1 (.bool false) ha;rw[gP];refine M _ ⟨gS,g0,g1,g2,?_,hp1,gd,L.on u λb g=>gz,λb g=>⟨by have:=(t b g).1;omega,ep (t b g).2 u.size⟩⟩ i λb g=>?_
    ·rw[O,EZ,aZ (by simp[ha]),ft];exact g3
    ·exact u.blk b (t b g).2 (by have:=(t b g).1;omega)
   ·apply qSv1 (.bool true) ha;rw[kx];apply cI (by simp[-Int.natCast_add,go_sem,g3]<;>first|exact sI|exact rfl);apply cI (by simp[-Int.natCast_add,go_sem,m]<;>first|exact sI|exact rfl);apply cI (by simp[-Int.natCast_add,go_sem,m]<;>first|exact sI|exact rfl);have hbd1:=T7 (l:=l.take j) (acct:=acct) λo S=>Od.left_bd (P.may o (ek S)).1;have hbd2:=Od.left_bd (P.may l[j] (cC U)).1;have hlen:=P.len;have hlt:(l.take j).length<=100:=by rw[cZ];omega
    refine cx (gI (xF (l.take (j+1)) acct)) G (by
     rw[O,EZ,bZ ha];simp[go_sem];rw[wI_]) ?_
    apply pH (G.setCell ⟨a+3,0,none⟩ (gI (xF (l.take (j+1)) acct))) (by simp[go_sem,g3]);have z:de (λb=>b=a+3) G (G.setCell ⟨a+3,0,none⟩ (gI (xF (l.take (j+1)) acct))):=(de.refl (λb=>b=a+3) G).sc;have k3:hC (G.setCell ⟨a+3,0,none⟩ (gI (xF (l.take (j+1)) acct))) (a+3) #[.int .i64 (xF (l.take (j+1)) acct)] 2:=by simp[go_sem,g3]
    generalize G.setCell ⟨a+3,0,none⟩ (gI (xF (l.take (j+1)) acct))=w9 at z k3|-;refine M _ ⟨gS.mod z λb g e=>by have:=N b g;omega,z.hpk g0 qZ,z.hpk g1 qZ,z.hpk g2 qZ,k3,hp1,z.hpk gd qZ,(L.on u λb g=>gz).trans z,λb g=>⟨by have:=(t b g).1;omega,ep (t b g).2 (dD u.size z.size)⟩⟩ (z.keep i qZ) λb g=>?_;rw[z.blk b (ep (t b g).2 u.size) (by have:=(t b g).1;omega)];exact u.blk b (t b g).2 (by have:=(t b g).1;omega)
 ·rintro Q W o ⟨P,j1,j2,j3,R,H,Z,L,t⟩;have hend:(l.map λo=>[oG o]).length=l.length:=by simp
  rw[hend,cN]at R H;unfold Jo;simp only[iJ];refine fin W o ?_ Z L
  have:lR buy l price acct=xF l acct:=by
   unfold lR xF;rw[Xf (p:=p) H]
  rw[this];exact R
 ·rintro c W o ⟨rfl,k1,k2,k3⟩;unfold Jo;simp only[iJ];exact fin W o k1 k2 k3
end Go.Proofs
